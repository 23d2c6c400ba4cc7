/-
  RsaChecks: for every key the law returns true, and the key reads as it did.
-/
import Derived.Test.YtdncmmipopdhbaaDoorCards
import Derived.Test.YtdncmmipopdhbaaDoorTie
import Derived.Test.YtdncmmipopdhbaaDoorCk19
import Derived.WalkKit
import Derived.ProofKit
import Derived.LaidMore
import Derived.DataShut
import Derived.Lay
import Derived.OpenShut
import Derived.ChangeOld
import Derived.SizedLaws
import Derived.Stop.Joined
import Derived.Lib.SmallJoins
import Derived.SevenTiedAt
namespace Go.Proofs.YtdncmmipopdhbaaDoor
open Go.ChangeShapes Go.WideShapes Go.ChangeAt Go.RowKit
set_option linter.unusedVariables false

theorem own : ownKnob Tryd.prog.godebug = none := by kernel_rfl
theorem laidOut : laidOutB Tryd.prog = true := by kernel_rfl
/-- A table of numbers that is laid: its cells. -/
theorem laid_nums {H : Type} {enc : TypeId × Value → H} {P : Program} {W : World} {base : Nat} {spare : Nat → Bool} {held : Bool} {fuel t e n : Nat} {k : IntKind} {ps : List MemPlace} {cs : List Value} (ht : P.underlying t = some (.array n e)) (he : P.underlying e = some (.int k)) (hce : P.cellsOf e = 1) (l : List Int) (hl : l.length = n)
    (h : DataW.trod enc P W base spare held fuel t cs = some (.agg (l.map fun x => .lit (.int k x)), ps)) : ∀ i, i < n → cs[i]? = some (.int k (l.getD i 0)) := by
  obtain ⟨xs, m, rfl, hx, hlen, hn, hel⟩ := DataW.trod_array ht h
  intro i hi
  have h1 := hel i hi
  rw [hce, Nat.mul_one, List.getElem?_eq_getElem (by omega)] at h1
  obtain ⟨q, e1, e2, _⟩ := DataW.trod_int he h1
  have e3 := congrArg (fun y => y.1) hx
  simp only [DataW.agg.injEq] at e3
  have e4 := congrArg (fun y => y[i]?) e3
  simp only [List.getElem?_map, List.getElem?_eq_getElem (by omega : i < xs.length), List.getElem?_eq_getElem (by omega : i < l.length), Option.map_some, Option.some.injEq] at e4
  rw [e2] at e4
  simp only [DataW.lit.injEq, Lit.int.injEq] at e4
  have e5 := congrArg (fun y => y[0]?) e1
  simp only [List.getElem?_take, List.getElem?_drop, Nat.add_zero] at e5
  rw [List.getD_eq_getElem?_getD, List.getElem?_eq_getElem (by omega : i < l.length)]
  simpa [← e4.2] using e5
abbrev laidAll : List (String × DataW Unit) := [("chirograph/digest.k256", Rows.laid_chirograph_digest_k256), ("chirograph/digest.k512", Rows.laid_chirograph_digest_k512), ("unicode/utf8.acceptRanges", Rows.laid_unicode_utf8_acceptRanges), ("unicode/utf8.first", Rows.laid_unicode_utf8_first)]
theorem gA : Tryd.prog.globalNamed "chirograph/digest.k256" = some 2 := by kernel_rfl
theorem gB : Tryd.prog.globalNamed "chirograph/digest.k512" = some 3 := by kernel_rfl
theorem tA : (Tryd.prog.globals[2]?).map (·.type) = some 108 := by kernel_rfl
theorem tB : (Tryd.prog.globals[3]?).map (·.type) = some 111 := by kernel_rfl
theorem eA : (Rows.laid_chirograph_digest_k256 : DataW Unit) = .agg ((K.iws Sha.K256).map fun x => .lit (.int .u32 x)) := by rfl
theorem eB : (Rows.laid_chirograph_digest_k512 : DataW Unit) = .agg ((K.iws Sha.K512).map fun x => .lit (.int .u64 x)) := by rfl
theorem iws_at {n : Nat} (l : List (BitVec n)) (i : Nat) (hi : i < l.length) : (K.iws l).getD i 0 = K.iw (l[i]?.getD 0#n) := by
  unfold K.iws
  rw [List.getD_eq_getElem?_getD, List.getElem?_map, List.getElem?_eq_getElem hi]
  rfl
theorem of_laid {W : World} (h : laidMetH Tryd.prog laidAll W) : Sha.KAt W := by
  rw [MakeChecks.laidMetH_plain _ _ _ (by kernel_rfl)] at h
  obtain ⟨ps, ⟨g0, t0, cs0, f0, p0, q0, hg0, ht0, hv0, hd0, ⟨g1, t1, cs1, f1, p1, q1, hg1, ht1, hv1, hd1, _, _⟩, _⟩, _, _⟩ := h
  obtain rfl := Option.some.inj (gA.symm.trans hg0)
  obtain rfl := Option.some.inj (gB.symm.trans hg1)
  obtain rfl := Option.some.inj (tA.symm.trans ht0)
  obtain rfl := Option.some.inj (tB.symm.trans ht1)
  rw [eA] at hd0
  rw [eB] at hd1
  have cA := laid_nums Tryd.underlying108 Tryd.underlying46 (by kernel_rfl) (K.iws Sha.K256) (by rfl) hd0
  have cB := laid_nums Tryd.underlying111 Tryd.underlying71 (by kernel_rfl) (K.iws Sha.K512) (by rfl) hd1
  refine ⟨fun i hi => ?_, fun i hi => ?_⟩
  · rw [World.var?_cell hg0 hv0 i, ← iws_at Sha.K256 i (by exact hi), ← cA i hi]
    simp
  · rw [World.var?_cell hg1 hv1 i, ← iws_at Sha.K512 i (by exact hi), ← cB i hi]
    simp
/-- A row of 32-bit numbers, opened. -/
theorem open_limbs {H : Type} {enc : TypeId × Value → H} {W : World} {m : Nat} {v : Value} {y : DataW H × List MemPlace} (h : DataW.trod enc Tryd.prog W 0 (fun _ => true) true m 22 [v] = some y) :
    ∃ (A : Option Addr) (l : List Int) (c : Nat), v = .slice A l.length c ∧ l.length ≤ c ∧ K.Rd W .u32 A l ∧ P.u32ok l = true := by
  rcases open_ints Tryd.underlying22 Tryd.underlying46 (by kernel_rfl) h with ⟨hcs, _⟩ | ⟨x, l, c, zs, hcs, _, hl, hm, hz, _, hcell, hwz⟩
  · simp at hcs
    exact ⟨none, [], 0, hcs, Nat.le_refl _, K.Rd.nil _ _ _, rfl⟩
  · simp at hcs
    have hz : zs.length = c := by simpa using hz
    have hlen : (zs.take l).length = l := by rw [List.length_take]; omega
    have hfull : K.Rd W .u32 (some x) zs := ⟨by rw [hz]; exact hm, fun _ => ⟨x, rfl, hcell⟩⟩
    refine ⟨some x, zs.take l, c, by rw [hlen]; exact hcs, by rw [hlen]; exact hl, hfull.take l, ?_⟩
    unfold P.u32ok
    rw [List.all_eq_true]
    intro n hn
    have := (Lit.wf_int_iff .u32 n).1 (hwz n (List.mem_of_mem_take hn))
    have h1 : IntKind.u32.min = 0 := by decide
    have h2 : IntKind.u32.max = 4294967295 := by decide
    rw [h1, h2] at this
    simp
    omega
set_option maxRecDepth 100000 in
theorem lifted (os : Os) (started : os.Started) (H : Type) (enc : TypeId × Value → H) :
    ReturnsInHanded {} Tryd.checked os 3 .any (fun w args => (Rows.rsaChecksSpec.pre enc Tryd.prog Tryd.f3 Rows.rsaChecksRow.domain false w args ∧ laidMetH Tryd.prog laidAll w) ∧ sizedMet enc Tryd.prog Tryd.f3 (OpenSpec.ofChange Rows.rsaChecksSpec) false w args)
      (Rows.rsaChecksSpec.post enc Tryd.prog Tryd.f3 false true false false) := by
  refine returnsInHanded_of_change_and (C := Tryd.checked) (X := fun w _ => laidMetH Tryd.prog laidAll w) (fun _ _ _ hh h => h.of_heap hh) own started (by kernel_rfl) Tryd.func3
    (ChangeSpec.witness_shaped (enc := enc) (C := Tryd.checked) (os := os) (X := fun w _ => laidMetH Tryd.prog laidAll w) false (World.laidAll Tryd.prog os laidAll) #[.agg #[.slice none 0 0, .slice none 0 0]] 8 (World.laidAll_os _ _ _)
      (World.shaped_of_ZipB (by kernel_rfl) (by kernel_rfl)) (by kernel_rfl) (by kernel_rfl) (by kernel_rfl)
      (by rw [MakeChecks.laidMetH_plain _ _ _ (by kernel_rfl)]; exact laidMet_laidAll _ (by kernel_rfl) (by kernel_rfl))) ?_
  intro W base args ds gs before hval0 hW _ _ hL _
  have hval : ∀ (j : Nat) t v, Tryd.f3.params[j]? = some t → args[j]? = some v → Value.okWide Tryd.prog W .any base t v := hval0
  have hW' := hW
  obtain ⟨p, q, hA0, hV, rfl, hfz, hnd⟩ := hW
  have hA : DataW.TrodAll enc Tryd.prog W 0 (fun _ => true) true Tryd.f3.params.toList args.toList ds p := hA0
  rw [Tryd.params3] at hA hval
  obtain ⟨v0, d0, rfl, rfl, h0⟩ := trodAll_one hA
  obtain ⟨rfl, rfl⟩ := trodVars_none hV
  have hKA := of_laid hL
  have lt0 : ∀ x ∈ p, x.block < W.heap.size := by obtain ⟨m, hm⟩ := h0; exact DataW.trod_lt m _ _ _ hm
  obtain ⟨v1, v2, y1, y2, m, rfl, _, _, k1, k2⟩ := Joins.open_agg2 Tryd.underlying24 (by kernel_rfl) (by kernel_rfl) (hval 0 24 v0 rfl rfl) h0
  obtain ⟨AN, N, cN, rfl, hcN, hrN, huN⟩ := open_limbs k1
  obtain ⟨AE, E, cE, rfl, hcE, hrE, huE⟩ := open_limbs k2
  obtain ⟨k, c, s, hplain⟩ := P.checks_plain N E huN huE
  refine (P.checks_calls AN AE cN cE N E W hrN hrE hcN hcE hKA k c s hplain).mono fun e W' ⟨he, bel⟩ => ?_
  subst he
  exact ⟨_, rfl, _, _, _, [], _, [], hW', trodAll_mk1 (shut_bool Tryd.underlying4 _), (trodAll_cons_mk (Below.trod laidOut (by kernel_rfl) (of_decide_eq_true (by kernel_rfl)) h0 bel lt0) trodAll_mk0), rfl, bel.frame _, fun h => by cases h⟩
theorem over : Rows.RsaChecksSaid :=
  OpenClaim.holds_of_wide 3 Tryd.f3 rfl rfl rfl rfl rfl rfl rfl ⟨rfl, rfl, rfl, rfl, rfl⟩ rfl rfl rfl rfl rfl (by kernel_rfl) Tryd.func3 (by kernel_rfl)
    (of_decide_eq_true (by kernel_rfl)) (by unfold Func.isWrapper; first | (rw [if_pos (by decide +kernel)]; kernel_rfl) | (rw [if_neg (by decide +kernel)]; exact ⟨rfl, rfl⟩))
    (fun os started H enc _ => lifted os started H enc)
theorem rsaChecks_holds : Rows.RsaChecksCardSaid :=
  Claim7.holds_tied_plain_at .later [] [.data, .data, .data, .pinned] true (true, "4b9797bfd06e9fa53421857f70d4a36c777c49a37cacd77b9ca3a459656b2d16") false
    over (fun _ h => by cases h) (by kernel_rfl) (fun _ h => by cases h) rsaChecks_row_tie rfl ⟨rfl, rfl⟩ (by kernel_rfl) rfl
    (fun f fn hf hfn => by
      obtain rfl : f = 3 := Option.some.inj ((show Tryd.prog.funcNamed "chirograph/chirographlaw08.RsaChecks" = some 3 by kernel_rfl).symm.trans hf) |>.symm
      obtain rfl : fn = Tryd.f3 := (Option.some.inj (Tryd.func3.symm.trans hfn)).symm
      exact ⟨by kernel_rfl, fun j t ht => by
        rw [Tryd.params3] at ht
        have hm : t ∈ [24] := by simpa using Array.mem_of_getElem? ht
        have hall : ([24].all fun u => !Tryd.prog.wantsStandIn u) = true := by kernel_rfl
        exact (show Tryd.prog.wantsStandIn t = false by simpa using List.all_eq_true.1 hall t hm)⟩)
    (by kernel_rfl)
#print axioms rsaChecks_holds
end Go.Proofs.YtdncmmipopdhbaaDoor
