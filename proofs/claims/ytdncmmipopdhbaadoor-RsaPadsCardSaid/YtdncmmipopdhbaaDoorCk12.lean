/-
  Parts of the walks and of the plain laws below the statement (XRepeat). Texts named F.. are what the kit's print writes for one function each, through a program of mine that hands it contracts of the functions that it does not take.
-/
import Derived.Test.YtdncmmipopdhbaaDoorCk9
import Derived.Test.YtdncmmipopdhbaaDoorCk1
import Derived.Lib.MakeNoZero
import Derived.Laws.CopyOwn
import Derived.Deep.RegionLaw
import Derived.Outline
section
/-
  Walk: bytes.Repeat.
-/
set_option linter.unusedVariables false
set_option linter.unusedSimpArgs false
namespace Go.Proofs.YtdncmmipopdhbaaDoor.P
open Go.RowKit Go.Proofs.YtdncmmipopdhbaaDoorW.PrintWords Go.Proofs.YtdncmmipopdhbaaDoorW.PrintLast Go.Proofs.YtdncmmipopdhbaaDoorW.PrintMore
open Go.Proofs.YtdncmmipopdhbaaDoor.K (reg_tail reg_still mixed wi64 wu32 wu8 wu64 tmn tdn)

theorem and_low (n : Nat) (h : n < 4294967296) : bits .and .u64 (n : Int) 4294967295 = (n : Int) := by
  have e := K.iw_and64 (BitVec.ofNat 64 n) (BitVec.ofNat 64 4294967295)
  have e1 : K.iw (BitVec.ofNat 64 n) = (n : Int) := by unfold K.iw; rw [BitVec.toNat_ofNat, Nat.mod_eq_of_lt (by omega)]
  have e2 : K.iw (BitVec.ofNat 64 4294967295) = 4294967295 := rfl
  rw [e1, e2] at e
  rw [e]
  unfold K.iw
  rw [BitVec.toNat_and, BitVec.toNat_ofNat, BitVec.toNat_ofNat, Nat.mod_eq_of_lt (by omega : n < 2 ^ 64)]
  have : n &&& (4294967295 % 2 ^ 64) = n % 2 ^ 32 := Nat.and_two_pow_sub_one_eq_mod n 32
  rw [this, Nat.mod_eq_of_lt (by omega)]
theorem mul_one_n (n : Int) (h0 : 0 ≤ n) (h1 : n ≤ 4096) : bits_Mul.f 1 n = some (0, n) := by
  have e := and_low n.toNat (by omega)
  simp only [Int.toNat_of_nonneg h0] at e
  have e1 : bits .and .u64 (1 : Int) 4294967295 = 1 := by decide +kernel
  have d1 : (1 : Int) / 4294967296 = 0 := by decide
  have d2 : n / 4294967296 = 0 := by omega
  unfold bits_Mul.f bits_Mul64.f
  simp only [e, e1, d1, d2, Int.zero_mul, Int.one_mul, Int.mul_one, Int.mul_zero]
  have w0 : IntKind.u64.wrap 0 = 0 := by decide +kernel
  have wn : IntKind.u64.wrap n = n := K.wu64 n h0 (by omega)
  have w1 : bits .and .u64 (0 : Int) 4294967295 = 0 := by decide +kernel
  simp only [wn, w0, d2, w1, Int.zero_add, Int.add_zero, Int.zero_ediv, Option.bind_some]
theorem cut_lo {P : Program} {z : Option Value} {b : Nat} (t T : TypeId) (ht : P.underlying t = some (.slice T)) (hi : (P.info? T).map (fun i => (i.zero, i.size, i.bytes)) = some (z, 1, b)) (g n c : Nat) (kl : IntKind) (lo : Nat) (h2 : lo ≤ n) (hc : lo < c) :
    ∀ W : World, (Instr.slice t (.slice (some ⟨g, 0, none⟩) n c) (some (.int kl lo)) none none).run P W = .ok (.slice (some ⟨g, lo, none⟩) (n - lo) (c - lo)) W := by
  intro W
  obtain ⟨i0, hi, hzz⟩ := Option.map_eq_some_iff.1 hi
  simp only [Prod.mk.injEq] at hzz
  have hel : P.elem t = T := by simp [Program.elem, ht]
  have hu : P.underlying t = some (.slice (P.elem t)) := by rw [hel]; exact ht
  have hne : ¬ c = lo := by omega
  rw [run_slice_l W t _ n c hu kl lo (by omega) (by omega), hel]
  simp [sizeOf, typeInfo, hi, hzz.2.1, sliced, Result.andThen, hne, K.add_plain]
set_option maxHeartbeats 8000000 in
set_option maxRecDepth 100000 in
/-- What comes back has n bytes; its array may be longer. -/
theorem bytes_Repeat.calls (A0 : Option Addr) (c0 : Nat) (l0 : List Int) (a1 : Int) (r : List Int) (w : World) (hr0 : Kd.C (Kd.int .u8) w A0 l0.length l0) (hc0 : l0.length ≤ c0) (h : bytes_Repeat.f l0 a1 = some r) :
    Calls Tryd.prog 33 #[.slice A0 l0.length c0, .int .i64 a1] w fun e w' => ∃ A c, e = .returned (.slice A r.length c) ∧ r.length ≤ c ∧ K.Rd w' .u8 A r ∧ Below w.heap.size w w' := by
  unfold bytes_Repeat.f at h
  split at h
  · rename_i hh
    obtain ⟨hl, h0, h1⟩ := hh
    obtain rfl := Option.some.inj h
    clear h
    match l0, hl with
    | [x], _ =>
    obtain ⟨n, rfl⟩ : ∃ n : Nat, a1 = (n : Int) := ⟨a1.toNat, by omega⟩
    have hr := C_rd hr0
    obtain ⟨ad, rfl, hcell⟩ := hr.2 (by simp)
    have hcell := hcell 0 (by simp)
    have hm := mul_one_n (n : Int) (by omega) (by omega)
    have HM := Lib.hid hm
    clear hm hr0 hr
    by_cases hz : n = 0
    · subst hz
      go_enter Tryd.func33, Tryd.ntmps33
      go_wp2
      go_ret
      refine ⟨some ⟨w.heap.size, 0, none⟩, 0, by rfl, by simp, ⟨by simp, fun h => absurd h (by simp)⟩, (Below.refl _ _).alloc (Nat.le_refl _) _⟩
    · have hz' : ((n : Int) == 0) = false := by simpa using hz
      go_enter Tryd.func33, Tryd.ntmps33
      go_wp2_with fail
      refine (bits_Mul.calls _ _ _ _ _ HM.out).mono ?_
      rintro e w2 ⟨rfl, hd⟩
      obtain ⟨nd, rfl⟩ := hd
      generalize hw2 : w.drewN nd = w2 at *
      have hs2 : w2.heap.size = w.heap.size := by rw [← hw2]; rfl
      have hb2 : Below w.heap.size w w2 := by rw [← hw2]; exact K.below_drewN (Below.refl _ _) _
      have hc2 : w2.cell? (ad.add 0) = some (.int .u8 x) := by rw [← hw2]; exact hcell
      obtain ⟨cs, hrun, hle, hmax⟩ := Lib.run_makeNoZero (P := Tryd.prog) w2 #[3] 31 5 Tryd.underlying31 n (by omega)
      have hcall : (callFunc 60 #[.int .i64 (n : Int)]).run Tryd.prog w2 = .ok (.value (.slice (some ⟨w2.heap.size, 0, none⟩) n cs.size)) (w2.drew.drew.alloc (.cells cs 5)) := by
        rw [run_callFunc_extern Tryd.func60 (by kernel_rfl) (by kernel_rfl) (by kernel_rfl) (e := Extern.BytealgMakeNoZero.makeNoZero #[3] #[31]) (by kernel_rfl), hrun]
        rfl
      have HS2 := Lib.hid hs2
      have HM2 := Lib.hid hmax
      clear hrun hs2 hmax hw2 hcell
      have hi8 : (Tryd.prog.info? 5).map (·.size) = some 1 := by kernel_rfl
      have HI8 := Lib.hid hi8
      clear hi8
      go_upto_region 17 with (fail)
      clear hcall
      go_wp2_with (refine wpList_copy_splice rfl _ _ 31 31 (by rfl) 5 Tryd.underlying31 HI8.out (some ⟨w2.heap.size, 0, none⟩) (some ad) n n 1 c0 (by rfl) (by rfl) w2.heap.size 0 cs.toList 5 ?hg [.int .u8 x] ?hn ?hpos ?hfit ?h1 w.heap.size w ?hb ?hBg ?_; (case hg => exact (heap_alloc_new w2 (.cells cs 5)).trans (by simp)); (case hn => exact (Nat.min_eq_left (by omega : 1 ≤ n)).symm); (case hpos => exact fun _ => ⟨rfl, ad, rfl, fun j v hv => by match j, hv with | 0, hv => (have hv : Value.int .u8 x = v := by simpa using hv); rw [← hv]; exact (World.cell?_alloc_lt _ _ _ (World.block_lt_of_cell? w2 _ hc2)).trans hc2⟩); (case hfit => simp; omega); (case h1 => intro v hv; rw [List.mem_singleton.1 hv]; rfl); (case hb => exact K.below_drewN (n := 2) (hb2.alloc (by rw [HS2.out]; exact Nat.le_refl _) _)); (case hBg => rw [HS2.out]; exact Nat.le_refl _); intro w4 HG4 hB4)
      have hcl : (splice cs.toList 0 [Value.int .u8 x]).length = cs.size := by rw [length_splice _ _ _ (by simp; omega)]; simp
      have htk : (splice cs.toList 0 [Value.int .u8 x]).take 1 = List.replicate 1 (.int .u8 x) := by simp [splice]
      generalize splice cs.toList 0 [Value.int .u8 x] = cur0 at *
      have HCL := Lib.hid hcl
      have HTK := Lib.hid htk
      have hg0 : w.heap.size ≤ w2.heap.size := by rw [HS2.out]; exact Nat.le_refl _
      generalize w2.heap.size = g at *
      clear hcl htk hc2 hb2
      go_wp2
      go_loopw [10, 11] (fun s10 s11 wr => ∃ (p : Nat) (cur : List Value), s10 = .int .i64 p ∧ 1 ≤ p ∧ p ≤ n ∧ Hid (wr.heap[g]? = some (.cells cur.toArray 5 (0, 0))) ∧ Hid (cur.length = cs.size) ∧ Hid (cur.take p = List.replicate p (.int .u8 x)) ∧ Below w.heap.size w wr) (fun s10 _ _ => n - (intOf s10).toNat)
      case atStart => exact ⟨1, cur0, rfl, Nat.le_refl _, by omega, HG4, HCL, HTK, hB4⟩
      case round =>
        clear HG4 HCL HTK hB4
        obtain ⟨p, cur, rfl, hp1, hpn, hG, hL, hT, hB⟩ := hrel
        by_cases hlt : p < n
        · have hlti : (p : Int) < (n : Int) := by omega
          have hcl := cut_lo (P := Tryd.prog) 31 5 Tryd.underlying31 info_u8 g n n .i64 p (by omega) (by omega)
          have hct := K.cut_to (P := Tryd.prog) 31 5 Tryd.underlying31 info_u8 (some ⟨g, 0, none⟩) n n .i64 (p : Int) (by omega) (by omega)
          simp only [Int.toNat_natCast] at hct
          go_wp2
          obtain ⟨m, hm⟩ : ∃ m, m = Nat.min p (n - p) := ⟨_, rfl⟩
          have hm1 : 1 ≤ m ∧ m ≤ p ∧ m ≤ n - p := by rw [hm]; exact ⟨Nat.le_min.2 ⟨by omega, by omega⟩, Nat.min_le_left _ _, Nat.min_le_right _ _⟩
          have HMM := Lib.hid hm
          clear hm
          have hwm : IntKind.i64.wrap ((p : Int) + (m : Int)) = ((p + m : Nat) : Int) := by rw [K.wi64 _ (by omega) (by omega)]; omega
          have HWM := Lib.hid hwm
          clear hwm
          have hcells : ∀ (j : Nat) (v : Value), (List.replicate m (Value.int .u8 x))[j]? = some v → wr.drew.cell? ((⟨g, 0, none⟩ : Addr).add j) = some v := by
            intro j v hv
            obtain ⟨hj, hv⟩ := List.getElem?_eq_some_iff.1 hv
            rw [List.length_replicate] at hj
            have h1 : (cur.take p)[j]? = some (.int .u8 x) := by rw [hT.out, List.getElem?_replicate, if_pos (by omega)]
            rw [List.getElem?_take, if_pos (by omega)] at h1
            rw [K.add_plain]
            show wr.cell? _ = _
            rw [K.blk_cell hG.out, List.getElem?_toArray, h1, ← hv]
            simp
          have HCE := Lib.hid hcells
          clear hcells
          go_region_law (refine step_copy_splice rfl _ _ 31 31 (by rfl) 5 Tryd.underlying31 HI8.out (some ⟨g, p, none⟩) (some ⟨g, 0, none⟩) (n - p) (n - p) p n (by rfl) (by rfl) g p cur 5 (by exact hG.out) (List.replicate m (.int .u8 x)) (by rw [List.length_replicate]; exact HMM.out) (by exact fun _ => ⟨rfl, _, rfl, HCE.out⟩) (by rw [List.length_replicate, hL.out]; omega) (by intro v hv; rw [(List.mem_replicate.1 hv).2]; rfl) w.heap.size w (by exact hB.drew) hg0 ?_; rw [List.length_replicate]; intro w5 HG5 hB5)
          go_wp2
          go_roundw
          case rel =>
            have hl : (cur.take p).length = p := by rw [List.length_take, hL.out]; omega
            have hT2 : Hid ((splice cur p (List.replicate m (.int .u8 x))).take (p + m) = List.replicate (p + m) (.int .u8 x)) := Lib.hid (by
              unfold splice
              rw [← List.append_assoc, hT.out, List.take_append_of_le_length (by simp), List.take_of_length_le (by simp), List.replicate_append_replicate])
            have hL2 : Hid ((splice cur p (List.replicate m (.int .u8 x))).length = cs.size) := Lib.hid (by rw [length_splice _ _ _ (by rw [List.length_replicate, hL.out]; omega)]; exact hL.out)
            (repeat apply Exists.intro); exact ⟨⟨p + m, splice cur p (List.replicate m (.int .u8 x)), congrArg (Value.int .i64) HWM.out, by omega, by omega, HG5, hL2, hT2, hB5⟩, rfl⟩
          case measure =>
            have h1 : (intOf (Value.int .i64 (IntKind.i64.wrap ((p : Int) + (m : Int))))).toNat = p + m := by rw [HWM.out]; simp [intOf]; omega
            show n - (intOf (Value.int .i64 (IntKind.i64.wrap ((p : Int) + (m : Int))))).toNat < n - (intOf (Value.int .i64 (p : Int))).toNat
            rw [h1]
            simp [intOf]; omega
        · obtain rfl : p = n := by omega
          have hlti : ¬ (p : Int) < (p : Int) := by omega
          go_wp2
          go_ret
          refine ⟨some ⟨g, 0, none⟩, p, by first | rfl | (rw [List.length_replicate]; rfl), by simp, ⟨by first | (rw [List.length_replicate]; omega) | (simp; omega), fun _ => ⟨_, rfl, fun i hi => ?_⟩⟩, hB⟩
          have hi : i < p := by simpa using hi
          have h1 : (cur.take p)[i]? = some (.int .u8 x) := by rw [hT.out, List.getElem?_replicate, if_pos hi]
          rw [List.getElem?_take, if_pos hi] at h1
          rw [K.add_plain, K.blk_cell hG.out, List.getElem?_toArray, h1]
          congr 2
          rw [List.getD_eq_getElem?_getD, List.getElem?_replicate, if_pos (by simpa using hi)]
          first | rfl | (simp; done)
  · cases h
end Go.Proofs.YtdncmmipopdhbaaDoor.P
end
