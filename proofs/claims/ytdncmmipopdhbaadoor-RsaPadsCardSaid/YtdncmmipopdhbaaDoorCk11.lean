/-
  Parts of the walks and of the plain laws below the statement (XSum). Texts named F.. are what the kit's print writes for one function each, through a program of mine that hands it contracts of the functions that it does not take.
-/
import Derived.Test.YtdncmmipopdhbaaDoorCk9
import Derived.Test.YtdncmmipopdhbaaDoorCk10
section
/-
  Walk: digest.Sum.
-/
set_option linter.unusedVariables false
set_option linter.unusedSimpArgs false
namespace Go.Proofs.YtdncmmipopdhbaaDoor.P
open Go.RowKit Go.Proofs.YtdncmmipopdhbaaDoorW.PrintWords Go.Proofs.YtdncmmipopdhbaaDoorW.PrintLast Go.Proofs.YtdncmmipopdhbaaDoorW.PrintMore

open Go.Proofs.YtdncmmipopdhbaaDoor.K (reg_tail reg_still mixed wi64 wu32 wu8 wu64 tmn tdn)
theorem u8_words (l : List Int) (h : u8ok l = true) : K.iws (l.map (BitVec.ofInt 8)) = l := K.iws_of l 8 (fun x hx => by
  have := List.all_eq_true.1 h x hx
  simp at this
  exact ⟨by omega, by omega⟩)
theorem size_ne (alg : Int) (h : algOk alg = true) : Sha.sizeN alg ≠ 0 ∧ 1 ≤ alg ∧ alg ≤ 4 := by
  unfold algOk at h
  simp at h
  refine ⟨Sha.sizeN_ne alg h.1 h.2, h.1, h.2⟩
theorem size_eq (alg : Int) (h : algOk alg = false) : Sha.sizeN alg = 0 := by
  unfold algOk at h
  unfold Sha.sizeN
  simp at h
  rw [if_neg (by omega), if_neg (by omega), if_neg (by omega), if_neg (by omega)]
/-- (*Hash).Sum, whatever the block. -/
theorem sum_calls (g base : Nat) (alg : Int) (m : Sha.Bytes) (h0 : 1 ≤ alg) (h4 : alg ≤ 4) (w : World) (hm : Sha.HM w g base alg m) (hK : Sha.KAt w) (hbase : base ≤ w.heap.size) (hlen : m.length ≤ 16777216) :
    Calls Tryd.prog 79 #[.pointer (some ⟨g, 0, none⟩)] w fun e w' => ∃ v, e = .returned v ∧ K.Own w' w.heap.size .u8 5 v (K.iws (Sha.hashOf alg m)) ∧ Below w.heap.size w w' := by
  by_cases h : Sha.blkN alg = 64
  · exact Sha.sum64_calls g base alg m h0 h4 h w hm hK hbase hlen
  · exact Sha.sum128_calls g base alg m h0 h4 (by unfold Sha.blkN at h ⊢; exact if_neg (fun h9 => h (if_pos h9))) w hm hK hbase hlen
theorem HM_at {w w' : World} {g base : Nat} {alg : Int} {m : Sha.Bytes} (h : Sha.HM w g base alg m) (hb : Below w.heap.size w w') : Sha.HM w' g base alg m := by
  obtain ⟨rv, h1, h2, h3⟩ := h.out
  exact ⟨rv, h1.below hb h1.lt, h2.below hb, h3⟩
/-- Rows of bytes that lie in old memory. -/
def RowsAt (w : World) (B : Nat) (A : Option Addr) (ls : List (List Int)) : Prop := ∀ i, i < ls.length →
    ∃ ad Ai ci, A = some ad ∧ ad.block < B ∧ w.cell? (ad.add i) = some (.slice Ai (ls.getD i []).length ci) ∧ (ls.getD i []).length ≤ ci ∧ K.Rd w .u8 Ai (ls.getD i []) ∧ ∀ a, Ai = some a → a.block < B
theorem RowsAt.below {w w' : World} {B : Nat} {A : Option Addr} {ls : List (List Int)} (h : RowsAt w B A ls) (hb : Below B w w') : RowsAt w' B A ls := fun i hi => by
  obtain ⟨ad, Ai, ci, e, hlt, hc, hle, hr, hA⟩ := h i hi
  exact ⟨ad, Ai, ci, e, hlt, (hb.cell (p := ad.add i) (by rw [K.add_block]; exact hlt)).trans hc, hle, hr.belowB hb hA, hA⟩
set_option maxHeartbeats 8000000 in
set_option maxRecDepth 100000 in
theorem digest_Sum.calls (a0 : Int) (A1 : Option Addr) (c1 : Nat) (l1 : List (List Int)) (r1 : List Int) (r2 : Int) (w : World) (hr1 : RowsAt w w.heap.size A1 l1) (hKA : Sha.KAt w) (h : digest_Sum.f a0 l1 = some (r1, r2)) :
    Calls Tryd.prog 51 #[.int .i64 a0, .slice A1 l1.length c1] w fun e w' => ∃ v0_ : Value, e = .returned (.tuple #[v0_, .int .i64 r2]) ∧ Kd.R (Kd.int .u8) 5 w' w.heap.size (fun _ => True) v0_ r1 ∧ Below w.heap.size w w' := by
  unfold digest_Sum.f at h
  split at h
  · rename_i hal
    obtain ⟨rfl, rfl⟩ := Prod.mk.inj (Option.some.inj h)
    have hz := size_eq a0 hal
    clear h
    have HZ := Lib.hid hz
    clear hz hal
    go_enter Tryd.func51, Tryd.ntmps51
    go_wp2_with fail
    refine (Sha.sizef_calls a0 _).mono ?_
    rintro e w1 ⟨rfl, rfl⟩
    rw [HZ.out]
    go_wp2
    go_ret2
    exact ⟨_, rfl, Kd.R_nil _ _ _ _ _, Below.refl _ _⟩
  · rename_i hal
    split at h
    · rename_i hh
      obtain ⟨hall, hl16, hlen⟩ := hh
      obtain ⟨rfl, rfl⟩ := Prod.mk.inj (Option.some.inj h)
      clear h
      obtain ⟨hne, h1, h4⟩ := size_ne a0 (by simpa using hal)
      have hne' : (Sha.sizeN a0 == 0) = false := by simpa using hne
      have HAL := Lib.hid hall
      have HR := Lib.hid hr1
      clear hne hal hr1 hall
      go_enter Tryd.func51, Tryd.ntmps51
      go_wp2_with fail
      refine (Sha.sizef_calls a0 _).mono ?_
      rintro e w1 ⟨rfl, rfl⟩
      go_wp2
      go_loop [6, 18] (fun s6 s18 => ∃ (i t : Nat), s18 = .int .i64 i ∧ s6 = .int .i64 t ∧ i ≤ l1.length ∧ Hid (t = (l1.take i).flatten.length)) (fun _ s18 => l1.length - (intOf s18).toNat)
      case atStart => exact ⟨0, 0, rfl, rfl, Nat.zero_le _, Lib.hid rfl⟩
      case round =>
        obtain ⟨i, t, rfl, rfl, hi, ht⟩ := hrel
        have htl : t ≤ 16777216 := by have := ht.out; have := flat_le l1 i; omega
        by_cases hlt : i < l1.length
        · have hlti : (i : Int) < (l1.length : Int) := by omega
          obtain ⟨ad, Ai, ci, rfl, hadl, hcell, hle, hrd, hAi⟩ := HR.out i hlt
          have hs := flat_succ l1 i hlt
          have hml : t + (l1.getD i []).length ≤ 16777216 := by
            have := flat_le l1 (i + 1)
            rw [hs, List.length_append] at this
            have := ht.out
            omega
          have HS := Lib.hid hs
          clear hs
          generalize hm : (l1.getD i []).length = m at *
          have HM := Lib.hid hm
          clear hm hrd hAi hadl
          have hno : ¬ ((16777216 : Int) - (t : Int) < (m : Int)) := by omega
          go_wp2
          go_round
          case rel => exact ⟨i + 1, t + m, by go_num, by go_num, by omega, Lib.hid (by rw [HS.out, List.length_append, ← ht.out, HM.out])⟩
          case measure => simp [intOf]; omega
        · obtain rfl : i = l1.length := by omega
          have hlti : ¬ (l1.length : Int) < (l1.length : Int) := by omega
          clear hlt
          go_wp2_with fail
          refine (Sha.new_calls a0 h1 h4 _).mono ?_
          rintro e w2 ⟨rfl, hm2, hb2⟩
          have hK2 := hKA.below hb2
          have hkl := hKA.lt
          go_wp2
          go_loopw [39] (fun s39 wr => ∃ i : Nat, s39 = .int .i64 i ∧ i ≤ l1.length ∧ Sha.HM wr w.heap.size w.heap.size a0 ((l1.take i).flatten.map (BitVec.ofInt 8)) ∧ Below w.heap.size w wr) (fun s39 _ => l1.length - (intOf s39).toNat)
          case atStart => exact ⟨0, rfl, Nat.zero_le _, hm2, hb2⟩
          case round =>
            clear hm2 hb2 hK2
            obtain ⟨i, rfl, hi, hm3, hb3⟩ := hrel
            by_cases hlt : i < l1.length
            · have hlti : (i : Int) < (l1.length : Int) := by omega
              obtain ⟨ad, Ai, ci, rfl, hadl, hcell, hle, hrd, hAi⟩ := (HR.out.below hb3) i hlt
              have hs := flat_succ l1 i hlt
              have hml : (l1.take i).flatten.length + (l1.getD i []).length ≤ 16777216 := by
                have := flat_le l1 (i + 1)
                rw [hs, List.length_append] at this
                omega
              have hwd : K.iws ((l1.getD i []).map (BitVec.ofInt 8)) = l1.getD i [] := u8_words _ (by
                refine List.all_eq_true.1 HAL.out _ ?_
                rw [List.getD_eq_getElem?_getD, List.getElem?_eq_getElem hlt]
                exact List.getElem_mem hlt)
              have HS := Lib.hid hs
              clear hs
              generalize hm : l1.getD i [] = m at *
              have HM := Lib.hid hm
              have HW := Lib.hid hwd
              clear hm hwd
              go_wp2_with fail
              have wc := Sha.write_calls w.heap.size w.heap.size a0 ((l1.take i).flatten.map (BitVec.ofInt 8)) (m.map (BitVec.ofInt 8)) h1 h4 Ai ci wr hm3 (by rw [HW.out]; exact hrd) (by rw [List.length_map]; exact hle) hAi (Nat.le_refl _) (hKA.below hb3) ⟨hkl.1, hkl.2⟩ hb3.size (by simp only [List.length_map]; exact hml)
              rw [List.length_map] at wc
              refine wc.mono ?_
              rintro e w4 ⟨rfl, hm4, hb4⟩
              clear wc hm3
              rw [← List.map_append] at hm4
              have hb5 := hb3.trans hb4
              clear hb3 hb4
              go_wp2
              go_roundw
              case rel => exact ⟨i + 1, by go_num, by omega, by rw [HS.out]; exact hm4, hb5⟩
              case measure => simp [intOf]; omega
            · obtain rfl : i = l1.length := by omega
              have hlti : ¬ (l1.length : Int) < (l1.length : Int) := by omega
              rw [List.take_length] at hm3
              clear hlt
              go_wp2_with fail
              refine (sum_calls w.heap.size w.heap.size a0 _ h1 h4 wr hm3 (hKA.below hb3) hb3.size (by rw [List.length_map]; omega)).mono ?_
              rintro e w5 ⟨v, rfl, hO5, hb5⟩
              go_wp2
              go_ret2
              exact ⟨_, rfl, own_R (hO5.mono hb3.size) (fun _ _ => trivial), hb3.trans (hb5.mono hb3.size)⟩
    · cases h
end Go.Proofs.YtdncmmipopdhbaaDoor.P
end
