/-
  Parts of the walks and of the plain laws below the statement (Wr). Texts named F.. are what the kit's print writes for one function each, through a program of mine that hands it contracts of the functions that it does not take.
-/
import Derived.Test.YtdncmmipopdhbaaDoorCk5
import Derived.Deep.RegionHeld3
import Derived.Deep.RegionLaw
import Derived.Deep.DeepCutAuto
import Derived.Deep.CutBlock
section
/-
  Walks: digest.Block, digest.Size, (*digest.Hash).Write.
-/
set_option linter.unusedVariables false
set_option linter.unusedSimpArgs false
namespace Go.Proofs.YtdncmmipopdhbaaDoor.Sha
open Go.RowKit Go.Proofs.YtdncmmipopdhbaaDoor.K

theorem info_u8 : (Tryd.prog.info? 5).map (fun i => (i.zero, i.size, i.bytes)) = some (some (.int .u8 0), 1, 1) := by kernel_rfl
/-- How many bytes a digest has. -/
def sizeN (alg : Int) : Int := if alg = 1 then 20 else if alg = 2 then 32 else if alg = 3 then 48 else if alg = 4 then 64 else 0
set_option maxHeartbeats 1000000 in
theorem blockf_calls (alg : Int) (h0 : 1 ≤ alg) (h1 : alg ≤ 4) (w : World) :
    Calls Tryd.prog 101 #[.int .i64 alg] w fun e w' => e = .returned (.int .i64 (blkN alg : Int)) ∧ w = w' := by
  obtain rfl | rfl | rfl | rfl : alg = 1 ∨ alg = 2 ∨ alg = 3 ∨ alg = 4 := by omega
  all_goals
    go_enter Tryd.func101, Tryd.ntmps101
    go_wp2
    go_ret
    exact ⟨rfl, rfl⟩
set_option maxHeartbeats 1000000 in
theorem sizef_calls (alg : Int) (w : World) :
    Calls Tryd.prog 27 #[.int .i64 alg] w fun e w' => e = .returned (.int .i64 (sizeN alg)) ∧ w = w' := by
  by_cases a1 : alg = 1
  · subst a1
    go_enter Tryd.func27, Tryd.ntmps27
    go_wp2
    go_ret
    exact ⟨rfl, rfl⟩
  by_cases a2 : alg = 2
  · subst a2
    go_enter Tryd.func27, Tryd.ntmps27
    go_wp2
    go_ret
    exact ⟨rfl, rfl⟩
  by_cases a3 : alg = 3
  · subst a3
    go_enter Tryd.func27, Tryd.ntmps27
    go_wp2
    go_ret
    exact ⟨rfl, rfl⟩
  by_cases a4 : alg = 4
  · subst a4
    go_enter Tryd.func27, Tryd.ntmps27
    go_wp2
    go_ret
    exact ⟨rfl, rfl⟩
  have e : sizeN alg = 0 := by simp [sizeN, a1, a2, a3, a4]
  have q1 : (alg == 1) = false := beq_eq_false_iff_ne.2 a1
  have q2 : (alg == 2) = false := beq_eq_false_iff_ne.2 a2
  have q3 : (alg == 3) = false := beq_eq_false_iff_ne.2 a3
  have q4 : (alg == 4) = false := beq_eq_false_iff_ne.2 a4
  have E := Lib.hid e
  clear e a1 a2 a3 a4
  go_enter Tryd.func27, Tryd.ntmps27
  go_wp2
  go_ret
  exact ⟨by rw [E.out]; rfl, rfl⟩

/-- A digest under way in memory: what it was handed is m. -/
structure HM (w : World) (g base : Nat) (alg : Int) (m : Bytes) : Prop where
  out : ∃ rv, HAt w g alg (state alg m).ws (state alg m).vs rv (m.length : Int) ∧ Own w base .u8 5 rv (iws (rest alg m)) ∧ rv.ownBlock ≠ some g

/-- In the midst of a Write: what is left is b1, the rest is empty. -/
structure WI (w0 : World) (g base : Nat) (alg : Int) (m b : Bytes) (N : Int) (A1 : Option Addr) (c1 : Nat) (b1 : Bytes) (w : World) : Prop where
  out : ∃ pre rv, b = pre ++ b1 ∧ HAt w g alg (state alg (m ++ pre)).ws (state alg (m ++ pre)).vs rv N ∧ rest alg (m ++ pre) = [] ∧ Own w base .u8 5 rv [] ∧ rv.ownBlock ≠ some g
  rd : Rd w .u8 A1 (iws b1)
  le : b1.length ≤ c1
  lo : ∀ a, A1 = some a → a.block < base
  bel : Below base w0 w

theorem iws_append {n : Nat} (a b : List (BitVec n)) : iws (a ++ b) = iws a ++ iws b := by simp [iws]
theorem iws_take {n : Nat} (a : List (BitVec n)) (k : Nat) : (iws a).take k = iws (a.take k) := by simp [iws]
theorem iws_drop {n : Nat} (a : List (BitVec n)) (k : Nat) : (iws a).drop k = iws (a.drop k) := by simp [iws]
theorem KAt.belowB {w w' : World} (h : KAt w) {B : Nat} (hb : Below B w w') (h1 : 2 < B) (h2 : 3 < B) : KAt w' :=
  ⟨fun i hi => (hb.cell (p := ⟨_, i, none⟩) h1).trans (h.a i hi), fun i hi => (hb.cell (p := ⟨_, i, none⟩) h2).trans (h.b i hi)⟩

/-- A slice's length. -/
def sliceLen : Value → Nat
  | .slice _ n _ => n
  | _ => 0
set_option maxHeartbeats 8000000 in
set_option maxRecDepth 100000 in
theorem write_calls (g base : Nat) (alg : Int) (m b : Bytes) (h0 : 1 ≤ alg) (h4 : alg ≤ 4) (A : Option Addr) (c : Nat) (w : World) (hm : HM w g base alg m) (hr : Rd w .u8 A (iws b)) (hbc : b.length ≤ c)
    (hA : ∀ a, A = some a → a.block < base) (hg : base ≤ g) (hK : KAt w) (hKb : 2 < base ∧ 3 < base) (hbase : base ≤ w.heap.size) (hlen : m.length + b.length ≤ 16777216) :
    Calls Tryd.prog 78 #[.pointer (some ⟨g, 0, none⟩), .slice A b.length c] w fun e w' => e = .returned (.int .i64 0) ∧ HM w' g base alg (m ++ b) ∧ Below base w w' := by
  obtain ⟨rv, hH, hO, hne⟩ := hm.out
  obtain ⟨Ar, cr, rfl, hcr, hcr2, hAr, hRr⟩ := hO.rd
  rw [iws_length] at hO hcr hH hne
  have hrl := rest_lt alg m
  have hbk := blkN_pos alg
  have hb128 : blkN alg ≤ 128 := by unfold blkN; split <;> omega
  have c0 := hH.c0
  have c17 := hH.c17
  have c18 := hH.c18
  have f18 := hH.free 18
  clear hm
  go_enter Tryd.func78, Tryd.ntmps78
  go_wp2_with fail
  refine (blockf_calls alg h0 h4 _).mono ?_
  rintro e w1 ⟨rfl, rfl⟩
  have hH1 := hH.set_n ((m.length : Int) + b.length)
  have hg1 := setCell_grown g 18 (.int .i64 ((m.length : Int) + b.length)) w
  have hb1 : Below base w (w.setCell ⟨g, 18, none⟩ (.int .i64 ((m.length : Int) + b.length))) := (Below.refl _ _).setCell hg _
  have hO1 := hO.kept hg1 (.inr hne)
  generalize hw1 : w.setCell ⟨g, 18, none⟩ (.int .i64 ((m.length : Int) + b.length)) = w1 at *
  generalize hN : (m.length : Int) + b.length = N at *
  have HN := Lib.hid hN
  have hr1 := hr.belowB hb1 hA
  have hK1 := hK.belowB hb1 hKb.1 hKb.2
  have hs1 : base ≤ w1.heap.size := Nat.le_trans hbase hb1.size
  have HR := Lib.hid hr
  have HK := Lib.hid hK
  clear hw1 hN hr hK hO hH hg1 hRr c0 c17 c18 f18
  have c17 := hH1.c17
  go_upto_if 36 with (fail)
  go_cut [1] (fun s1 wc => ∃ b1 A1 c1, s1 = .slice A1 b1.length c1 ∧ WI w g base alg m b N A1 c1 b1 wc)
  case first =>
    by_cases hq : (rest alg m).length = 0
    · have hr0 : rest alg m = [] := List.eq_nil_of_length_eq_zero hq
      have hI : WI w g base alg m b N A c b w1 := ⟨⟨[], _, rfl, by rw [List.append_nil]; exact hH1, by rw [List.append_nil]; exact hr0, by rw [hr0] at hO1 ⊢; exact hO1, hne⟩, hr1, hbc, hA, hb1⟩
      have hd : decide ((0 : Int) < ((rest alg m).length : Int)) = false := by rw [hq]; rfl
      clear hr0
      go_wp2
      go_meet
      exact ⟨b, A, c, rfl, hI⟩
    · have hd : (0 : Int) < ((rest alg m).length : Int) := by omega
      obtain ⟨k, hk1, hk2, hk3⟩ : ∃ k : Nat, k ≤ b.length ∧ k + (rest alg m).length ≤ blkN alg ∧ (k = b.length ∨ k + (rest alg m).length = blkN alg) := by
        by_cases h : b.length + (rest alg m).length ≤ blkN alg
        · exact ⟨b.length, by omega, h, .inl rfl⟩
        · exact ⟨blkN alg - (rest alg m).length, by omega, by omega, .inr (by omega)⟩
      have hgl := hH1.lt
      go_upto_region 8 with (fail)
      go_cut [6] (fun s6 wx => s6 = .int .i64 (k : Int) ∧ w1 = wx)
      case first =>
        by_cases h : b.length + (rest alg m).length ≤ blkN alg
        · have h' : (b.length : Int) ≤ (blkN alg : Int) - ((rest alg m).length : Int) := by omega
          obtain rfl : k = b.length := by omega
          go_wp2
          go_meet
          exact ⟨rfl, rfl⟩
        · have h' : ¬ (b.length : Int) ≤ (blkN alg : Int) - ((rest alg m).length : Int) := by omega
          have hk4 : (blkN alg : Int) - ((rest alg m).length : Int) = (k : Int) := by omega
          have HK4 := Lib.hid hk4
          clear hk4
          go_wp2
          go_meet
          exact ⟨by rw [HK4.out], rfl⟩
      case rest =>
        obtain ⟨rfl, rfl⟩ := hcut
        go_wp2
        have hcut := cut_to (P := Tryd.prog) 31 5 Tryd.underlying31 info_u8 A b.length c .i64 (k : Int) (by omega) (by omega)
        have hrk : Rd w1.drew .u8 A (iws (b.take k)) := by rw [← iws_take]; exact (hr1.drewN 1).take k
        have hlk : (iws (b.take k)).length = k := by rw [iws_length, List.length_take]; omega
        have HLK := Lib.hid hlk
        have HRK := Lib.hid hrk
        have HNE := Lib.hid hne
        clear hlk hrk hne
        have hk0 : (0 : Int) ≤ (k : Int) := by omega
        have hkc : (k : Int) ≤ (c : Int) := by omega
        go_cut [] (fun wx => ∃ Av cv, HAt wx g alg (state alg m).ws (state alg m).vs (.slice Av ((rest alg m).length + k) cv) N ∧ Own wx base .u8 5 (.slice Av ((rest alg m).length + k) cv) (iws (rest alg m ++ b.take k)) ∧ (Value.slice Av ((rest alg m).length + k) cv).ownBlock ≠ some g ∧ Below base w wx)
        case first =>
          go_region_law (refine step_ap base .u8 rfl _ _ 31 5 1 (by rfl) Tryd.underlying31 info_u8 (by decide) _ (iws (rest alg m)) (iws (b.take k)) _ _ _ (by rfl) (by rfl) HLK.out (by exact hO1.drewN 1) HRK.out (by rw [HLK.out, iws_length]; omega) hs1 ((rest alg m).length + k) (by rw [HLK.out, iws_length]) ?_; intro Av cv w2 hO2 hg2 hat; have c17' := hg2.cell (show w1.drew.cell? ⟨g, 17, none⟩ = _ from c17) (fun e => HNE.out e.symm); have f17' := (hg2.frozen_far ⟨g, 17, none⟩ (show g < w1.drew.heap.size from hgl) (fun e => HNE.out e.symm)).trans (show w1.drew.frozen? ⟨g, 17, none⟩ = false from hH1.free 17))
          go_wp2
          go_meet
          have hne2 : (Value.slice Av ((rest alg m).length + k) cv).ownBlock ≠ some g := by
            rcases hat with h | h
            · rw [h]; exact HNE.out
            · rw [h]; intro h'; have := Option.some.inj h'; simp at this; omega
          refine ⟨Av, cv, ((hH1.drew).grown hg2 (fun e => HNE.out e.symm)).set_rest _, by rw [← iws_append] at hO2; exact hO2.kept (setCell_grown g 17 _ w2) (.inr hne2), hne2, ?_⟩
          exact (below_grown hb1.drew hg2 hs1 (fun b hb => hO1.base_le b hb)).setCell hg _
        case rest =>
          obtain ⟨Av, cv, hH2, hO2, hne2, hb2⟩ := hcut
          clear HRK hr1 hO1 hH1 c17 hK1 hb1 HLK
          obtain ⟨A3, hs3, hr3, ha3⟩ := cut_from (P := Tryd.prog) 31 5 Tryd.underlying31 info_u8 A b.length c .i64 (k : Int) (by omega) (by omega) hbc
          simp only [Int.toNat_natCast] at hs3 hr3
          have HR3 := Lib.hid hr3
          have HA3 := Lib.hid ha3
          have HN2 := Lib.hid hne2
          clear hr3 ha3 hne2
          have c17 := hH2.c17
          have f17 := hH2.free 17
          by_cases hfull : (rest alg m).length + k = blkN alg
          · have hd2 : ¬ ((((rest alg m).length + k : Nat) : Int) < (blkN alg : Int)) := by omega
            have hbl : (rest alg m ++ b.take k).length = (rest alg m).length + k := by rw [List.length_append, List.length_take]; omega
            have HBL := Lib.hid hbl
            have HF := Lib.hid hfull
            clear hbl hfull
            go_wp2_with fail
            have hK2 := HK.out.belowB hb2 hKb.1 hKb.2
            obtain ⟨A9, c9, e9, _, _, _, hR9⟩ := hO2.rd
            rw [iws_length, HBL.out] at e9
            obtain ⟨rfl, _, rfl⟩ := Value.slice.inj e9
            have bc := block_calls g alg N (state alg m).ws (state alg m).vs _ Av cv (rest alg m ++ b.take k) wc hH2 hR9 (by rw [HBL.out, HF.out]; exact Nat.le_refl _) hK2
            rw [HBL.out] at bc
            refine bc.mono ?_
            rintro e w3 ⟨rfl, hH3, hg3⟩
            have c17' := hH3.c17
            have f17' := hH3.free 17
            clear bc c17 f17
            go_wp2
            go_meet
            have hf := add_fill alg m (b.take k) (by rw [List.length_take]; have := HF.out; omega)
            have hb3 : Below base w (w3.setCell ⟨g, 17, none⟩ (.slice none 0 0)) := (below_grown hb2 hg3 (Nat.le_trans hbase hb2.size) (fun b hb => by cases hb; exact hg)).setCell hg _
            refine ⟨b.drop k, A3, c - k, by rw [List.length_drop], ⟨⟨b.take k, .slice none 0 0, (List.take_append_drop k b).symm, ?_, hf.2, Own.nil _ _ _ _, by simp [Value.ownBlock]⟩, ?_, by rw [List.length_drop]; omega, HA3.out (fun x => x < base) hA, hb3⟩⟩
            · rw [hf.1]; exact hH3.set_rest _
            · rw [← iws_drop]; exact HR3.out _ _ _ (iws_length _) (HR.out.belowB hb3 hA)
          · have hd2 : (((rest alg m).length + k : Nat) : Int) < (blkN alg : Int) := by omega
            obtain rfl : k = b.length := by omega
            rw [List.take_of_length_le (Nat.le_refl _)] at hO2
            go_wp2
            go_ret
            have hf := add_short alg m b (by omega)
            refine ⟨rfl, ⟨⟨_, ?_, ?_, HN2.out⟩⟩, hb2⟩
            · rw [hf.1, List.length_append, Int.natCast_add, HN.out]; exact hH2
            · rw [hf.2]; exact hO2
  case rest =>
    obtain ⟨b1, A1, c1, rfl, hI⟩ := hcut
    clear hH1 hO1 hr1 hK1 hb1 c17
    go_wp2
    go_loopw [1] (fun s1 wr => ∃ b1 A1 c1, s1 = .slice A1 b1.length c1 ∧ WI w g base alg m b N A1 c1 b1 wr) (fun s1 _ => sliceLen s1)
    case atStart => exact ⟨b1, A1, c1, rfl, hI⟩
    case round =>
      clear hI
      obtain ⟨b2, A2, c2, rfl, ⟨pre, rv2, hbp, hH, hrn, hO, hne2⟩, hrd, hle, hlo, hbel⟩ := hrel
      have hlb : b2.length ≤ b.length := by rw [hbp, List.length_append]; omega
      by_cases hlt : blkN alg ≤ b2.length
      · have hlt' : (blkN alg : Int) ≤ (b2.length : Int) := by omega
        have hs2 := cut_to (P := Tryd.prog) 31 5 Tryd.underlying31 info_u8 A2 b2.length c2 .i64 (blkN alg : Int) (by omega) (by omega)
        obtain ⟨A3, hs3, hr3, ha3⟩ := cut_from (P := Tryd.prog) 31 5 Tryd.underlying31 info_u8 A2 b2.length c2 .i64 (blkN alg : Int) (by omega) (by omega) hle
        simp only [Int.toNat_natCast] at hs2 hs3 hr3
        have HR3 := Lib.hid hr3
        have HA3 := Lib.hid ha3
        have HN2 := Lib.hid hne2
        have HBP := Lib.hid hbp
        have HRN := Lib.hid hrn
        clear hr3 ha3 hne2 hbp hrn
        go_wp2_with fail
        have hl : (b2.take (blkN alg)).length = blkN alg := by rw [List.length_take]; omega
        have bc := block_calls g alg N (state alg (m ++ pre)).ws (state alg (m ++ pre)).vs rv2 A2 c2 (b2.take (blkN alg)) wr hH (by rw [← iws_take]; exact hrd.take _) (by rw [hl]; exact Nat.le_refl _) (HK.out.belowB hbel hKb.1 hKb.2)
        rw [hl] at bc
        refine bc.mono ?_
        rintro e w3 ⟨rfl, hH3, hg3⟩
        clear bc hl
        go_wp2
        go_roundw
        case rel =>
          have hf := add_fill alg (m ++ pre) (b2.take (blkN alg)) (by rw [HRN.out, List.length_take, List.length_nil]; omega)
          rw [HRN.out, List.nil_append, List.append_assoc] at hf
          have hb3 : Below base w w3 := below_grown hbel hg3 (Nat.le_trans hbase hbel.size) (fun b hb => by cases hb; exact hg)
          refine ⟨b2.drop (blkN alg), A3, c2 - blkN alg, by rw [List.length_drop], ⟨⟨pre ++ b2.take (blkN alg), rv2, ?_, ?_, hf.2, hO.kept hg3 (.inr HN2.out), HN2.out⟩, ?_, by rw [List.length_drop]; omega, HA3.out (fun x => x < base) hlo, hb3⟩⟩
          · rw [List.append_assoc, List.take_append_drop]; exact HBP.out
          · rw [hf.1]; exact hH3
          · rw [← iws_drop]; exact HR3.out _ _ _ (iws_length _) (hrd.grown hg3 (fun a ha h => by have := hlo a ha; have := Option.some.inj h; omega))
        case measure => simp [sliceLen]; omega
      · have hlt' : ¬ (blkN alg : Int) ≤ (b2.length : Int) := by omega
        by_cases h0 : b2.length = 0
        · obtain rfl : b2 = [] := List.eq_nil_of_length_eq_zero h0
          rw [List.append_nil] at hbp
          subst hbp
          have HN2 := Lib.hid hne2
          have HRN := Lib.hid hrn
          clear hne2 hrn h0
          go_wp2
          go_ret
          refine ⟨rfl, ⟨⟨rv2, ?_, by rw [HRN.out]; exact hO, HN2.out⟩⟩, hbel⟩
          rw [List.length_append, Int.natCast_add, HN.out]; exact hH
        · have hd0 : (0 : Int) < (b2.length : Int) := by omega
          have c17 := hH.c17
          have f17 := hH.free 17
          have HN2 := Lib.hid hne2
          have HBP := Lib.hid hbp
          have HRN := Lib.hid hrn
          clear hne2 hbp hrn
          have hO3 := Own.made wr base .u8 5 (blkN alg) (Nat.le_trans hbase hbel.size) (by omega)
          have hgl := hH.lt
          go_wp2_with (first | (refine wpList_make .u8 rfl _ _ 31 5 1 (by rfl) Tryd.underlying31 info_u8 .i64 .i64 0 (blkN alg : Int) (by rfl) (by rfl) (by omega) (by omega) (by omega) (by omega) 0 (blkN alg) rfl (Int.toNat_natCast _) ?_) | (refine wpList_ap base .u8 rfl _ _ 31 5 1 (by rfl) Tryd.underlying31 info_u8 (by decide) (.slice (some ⟨wr.heap.size, 0, none⟩) 0 (blkN alg)) [] (iws b2) A2 b2.length c2 (by rfl) (by rfl) (iws_length _) (by exact hO3) (hrd.alloc _) (by rw [iws_length, List.length_nil]; omega) (by simp; omega) b2.length (by rw [iws_length, List.length_nil]; omega) ?_; intro Av cv w2 hO2 hg2 hat; have f17' := ((hg2.frozen_far ⟨g, 17, none⟩ (by simp; omega) (by simp [Value.ownBlock]; omega)).trans ((hH.alloc _).free 17)); have c17' := hg2.cell ((hH.alloc _).c17) (by simp [Value.ownBlock]; omega)))
          go_ret
          have hf := add_short alg (m ++ pre) b2 (by rw [HRN.out, List.length_nil]; omega)
          have em : m ++ pre ++ b2 = m ++ b := by rw [List.append_assoc, ← HBP.out]
          rw [HRN.out, List.nil_append, em] at hf
          have hne3 : (Value.slice Av b2.length cv).ownBlock ≠ some g := by
            rcases hat with h | h
            · rw [h]; simp [Value.ownBlock]; omega
            · rw [h]; simp; omega
          refine ⟨rfl, ⟨⟨_, ?_, ?_, hne3⟩⟩, ?_⟩
          · rw [hf.1, List.length_append, Int.natCast_add, HN.out]
            exact ((hH.alloc _).grown hg2 (by simp [Value.ownBlock]; omega)).set_rest _
          · rw [hf.2]
            exact Own.kept (by simpa using hO2) (setCell_grown g 17 _ w2) (.inr hne3)
          · exact (below_grown (hbel.alloc (Nat.le_trans hbase hbel.size) _) hg2 (by simp; have := hbel.size; omega) (fun b hb => by simp [Value.ownBlock] at hb; have := hbel.size; omega)).setCell hg _
end Go.Proofs.YtdncmmipopdhbaaDoor.Sha
end
