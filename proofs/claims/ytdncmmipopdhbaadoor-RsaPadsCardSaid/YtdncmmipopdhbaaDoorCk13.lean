/-
  Parts of the walks and of the plain laws below the statement (XPut). Texts named F.. are what the kit's print writes for one function each, through a program of mine that hands it contracts of the functions that it does not take.
-/
import Derived.Test.YtdncmmipopdhbaaDoorCk9
section
/-
  Walk: der.Put.
-/
set_option linter.unusedVariables false
set_option linter.unusedSimpArgs false
namespace Go.Proofs.YtdncmmipopdhbaaDoor.P
open Go.RowKit Go.Proofs.YtdncmmipopdhbaaDoorW.PrintWords Go.Proofs.YtdncmmipopdhbaaDoorW.PrintLast Go.Proofs.YtdncmmipopdhbaaDoorW.PrintMore

theorem or_tag : ∀ i : Fin 31, bits .or .u8 0 (i.val : Int) = (i.val : Int) ∧ bits .or .u8 32 (i.val : Int) = 32 + (i.val : Int) := by decide +kernel
theorem or_cons : bits .or .u8 0 32 = 32 := by decide +kernel
set_option maxHeartbeats 8000000 in
set_option maxRecDepth 100000 in
theorem der_Put.calls (a0 : Int) (a1 : Int) (a2 : Bool) (A3 : Option Addr) (c3 : Nat) (l3 : List (List Int)) (r1 : List Int) (r2 : Int) (w : World) (hr3 : Kd.C (Kd.slice 5 (Kd.int .u8)) w A3 l3.length l3) (hc3 : l3.length ≤ c3) (h : der_Put.f a0 a1 a2 l3 = some (r1, r2)) :
    Calls Tryd.prog 58 #[.int .i64 a0, .int .i64 a1, .bool a2, .slice A3 l3.length c3] w fun e w' => ∃ v0_ : Value, e = .returned (.tuple #[v0_, .int .i64 r2]) ∧ Kd.R (Kd.int .u8) 5 w' w.heap.size (fun _ => True) v0_ r1 ∧ Below w.heap.size w w' := by
  unfold der_Put.f at h
  split at h
  · rename_i hh
    obtain ⟨rfl, ht1, ht2, hall, hl16, hl128⟩ := hh
    obtain ⟨rfl, rfl⟩ := Prod.mk.inj (Option.some.inj h)
    clear h hall
    have hot := or_tag ⟨a1.toNat, by omega⟩
    simp only [Int.toNat_of_nonneg (show 0 ≤ a1 by omega)] at hot
    obtain ⟨hot1, hot2⟩ := hot
    have hoc := or_cons
    have hq : ((0 : Int) + a1 == 0) = false := by simp; omega
    have hq' : (a1 == 0) = false := by simp; omega
    have ha8 : IntKind.u8.wrap a1 = a1 := K.wu8 _ (by omega) (by omega)
    have HOT1 := Lib.hid hot1
    have HOT2 := Lib.hid hot2
    clear hot1 hot2
    have HR3 := Lib.hid hr3
    clear hr3
    obtain ⟨f, hf⟩ : ∃ f : Int, f = (if a2 = true then 32 else 0) := ⟨_, rfl⟩
    rw [← hf]
    have HF := Lib.hid hf
    clear hf
    cases a2
    all_goals
      go_enter Tryd.func58, Tryd.ntmps58
      go_wp2
      go_loop [10, 40] (fun s10 s40 => ∃ (i t : Nat), s40 = .int .i64 i ∧ s10 = .int .i64 t ∧ i ≤ l3.length ∧ Hid (t = (l3.take i).flatten.length)) (fun _ s40 => l3.length - (intOf s40).toNat)
      case atStart => exact ⟨0, 0, rfl, rfl, Nat.zero_le _, Lib.hid rfl⟩
      case round =>
        obtain ⟨i, t, rfl, rfl, hi, ht⟩ := hrel
        have htl : t < 128 := by have := ht.out; have := flat_le l3 i; omega
        by_cases hlt : i < l3.length
        · have hlti : (i : Int) < (l3.length : Int) := by omega
          obtain ⟨ad, Ai, ci, rfl, hcell, hle, hrd⟩ := C_row HR3.out i hlt
          have hs := flat_succ l3 i hlt
          have hml : (l3.getD i []).length < 128 := by
            have := flat_le l3 (i + 1)
            rw [hs, List.length_append] at this
            omega
          have HS := Lib.hid hs
          clear hs
          generalize hm : (l3.getD i []).length = m at *
          have HM := Lib.hid hm
          clear hm hrd
          have hno : ¬ ((16777216 : Int) - (t : Int) < (m : Int)) := by omega
          go_wp2
          go_round
          case rel => exact ⟨i + 1, t + m, by go_num, by go_num, by omega, Lib.hid (by rw [HS.out, List.length_append, ← ht.out, HM.out])⟩
          case measure => simp [intOf]; omega
        · obtain rfl : i = l3.length := by omega
          have hlti : ¬ (l3.length : Int) < (l3.length : Int) := by omega
          have ht' : t = l3.flatten.length := by have := ht.out; rwa [List.take_length] at this
          have HT := Lib.hid ht'
          clear ht ht' hlt
          have hot1 := HOT1.out
          have hot2 := HOT2.out
          have ha8' : a1 % 256 = a1 := by omega
          have ht8 : (t : Int) % 256 = t := by omega
          have ht8' : IntKind.u8.wrap (t : Int) = t := K.wu8 _ (by omega) (by omega)
          go_wp2_with (first | (refine wpList_made w.heap.size .u8 rfl _ _ 31 5 1 (by rfl) Tryd.underlying31 info_u8 .i64 .i64 ((t : Int) + 10) (by rfl) (by rfl) (by omega) (by omega) (by omega) (t + 10) (by omega) (Nat.le_refl _) ?_; intro A3_ w3 hO3 hb3; have hs3 := hb3.size) | (refine K.wpList_ap1n w.heap.size .u8 rfl _ _ 31 5 1 (by rfl) Tryd.underlying31 info_u8 (by decide) (.slice A3_ 0 (t + 10)) [] _ (by rfl) (by rfl) hO3 0 rfl (by omega) (by omega) 1 rfl ?_; intro A4 c4 w4 hO4 hg4; have hb4 : Below w.heap.size w w4 := K.below_grown hb3 hg4 hb3.size (fun b hb => hO3.base_le b hb); have hs4 := hb4.size) | (refine K.wpList_ap1n w.heap.size .u8 rfl _ _ 31 5 1 (by rfl) Tryd.underlying31 info_u8 (by decide) (.slice A4 1 c4) _ _ (by rfl) (by rfl) hO4 1 rfl (by omega) (by omega) 2 rfl ?_; intro A5 c5 w5 hO5 hg5; have hb5 : Below w.heap.size w w5 := K.below_grown hb4 hg5 hb4.size (fun b hb => hO4.base_le b hb); have hs5 := hb5.size))
          clear hO3 hO4 hg4 hg5 hot1 hot2 ha8' ha8 hoc hb4 hb3
          have hO6 : K.Own w5 w.heap.size .u8 5 (.slice A5 2 c5) ((f + a1) :: (t : Int) :: (l3.take 0).flatten) := by
            have h := HF.out
            simp at h
            subst h
            simpa using hO5
          clear hO5
          go_loopw [14, 113] (fun s14 s113 wr => ∃ (i n : Nat) (A : Option Addr) (c : Nat), s113 = .int .i64 i ∧ s14 = .slice A n c ∧ i ≤ l3.length ∧ Hid (n = 2 + (l3.take i).flatten.length) ∧ K.Own wr w.heap.size .u8 5 (.slice A n c) ((f + a1) :: (t : Int) :: (l3.take i).flatten) ∧ Below w.heap.size w wr) (fun _ s113 _ => l3.length - (intOf s113).toNat)
          case atStart => exact ⟨0, 2, A5, c5, rfl, rfl, Nat.zero_le _, Lib.hid rfl, hO6, hb5⟩
          case round =>
            clear hO6 hb5 hs5
            obtain ⟨i, n, A, c, rfl, rfl, hi, hn, hO, hb⟩ := hrel
            have hs := hb.size
            by_cases hlt : i < l3.length
            · have hlti : (i : Int) < (l3.length : Int) := by omega
              obtain ⟨ad, Ai, ci, rfl, hcell, hle, hrd⟩ := C_row (Kd.C_below HR3.out hb) i hlt
              have hs2 := flat_succ l3 i hlt
              have HS := Lib.hid hs2
              have hml : n + (l3.getD i []).length < 200 := by
                have := flat_le l3 (i + 1)
                rw [hs2, List.length_append] at this
                have := hn.out
                omega
              have hlen : ((f + a1) :: (t : Int) :: (l3.take i).flatten).length = n := by have := hn.out; simp only [List.length_cons]; omega
              have HLEN := Lib.hid hlen
              generalize hm : l3.getD i [] = li at *
              have HM := Lib.hid hm
              clear hm hs2 hlen
              go_wp2_with (refine K.wpList_ap w.heap.size .u8 rfl _ _ 31 5 1 (by rfl) Tryd.underlying31 info_u8 (by decide) (.slice A n c) _ li Ai li.length ci (by rfl) (by rfl) rfl hO hrd (by rw [HLEN.out]; omega) hs (n + li.length) (by rw [HLEN.out]) ?_; intro Av cv w7 hO7 hg7 hat7)
              go_roundw
              case rel => exact ⟨i + 1, n + li.length, Av, cv, by go_num, rfl, by omega, Lib.hid (by have := hn.out; rw [HS.out, List.length_append]; omega), by rw [HS.out]; exact hO7, K.below_grown hb hg7 hs (fun b hb => hO.base_le b hb)⟩
              case measure => simp [intOf]; omega
            · obtain rfl : i = l3.length := by omega
              have hlti : ¬ (l3.length : Int) < (l3.length : Int) := by omega
              rw [List.take_length] at hO
              clear hlt hn
              go_wp2
              go_ret2
              refine ⟨_, rfl, own_R (by have h := HT.out; rw [List.length_flatten] at h; rw [← h]; exact hO) (fun _ _ => trivial), hb⟩
  · cases h
end Go.Proofs.YtdncmmipopdhbaaDoor.P
end
