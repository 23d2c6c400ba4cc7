/-
  Parts of the walks and of the plain laws below the statement (Wide). Texts named F.. are what the kit's print writes for one function each, through a program of mine that hands it contracts of the functions that it does not take.
-/
import Derived.Test.YtdncmmipopdhbaaDoorCk3
import Derived.Deep.DeepCutAuto
import Derived.Deep.CutBlock
section
/-
  Walk: digest.wide, the mixing of one block of SHA-512.
-/
set_option linter.unusedVariables false
set_option linter.unusedSimpArgs false
namespace Go.Proofs.YtdncmmipopdhbaaDoor.Sha
open Go.RowKit Go.Proofs.YtdncmmipopdhbaaDoor.K

structure R8w where
  (a b c d e f g h : BitVec 64)
def s5w (w : List (BitVec 64)) (t : Nat) : List (BitVec 64) :=
  if 16 ≤ t then w.set (t % 16) (w[t % 16]?.getD 0#64 + (turn3 (w[(t + 14) % 16]?.getD 0#64) 19 61 6 true + w[(t + 9) % 16]?.getD 0#64 + turn3 (w[(t + 1) % 16]?.getD 0#64) 1 8 7 true)) else w
def s5x (r : R8w) (k x : BitVec 64) : BitVec 64 := r.h + turn3 r.e 14 18 41 false + (r.g ^^^ r.e &&& (r.f ^^^ r.g)) + k + x
def s5y (r : R8w) : BitVec 64 := turn3 r.a 28 34 39 false + (r.a &&& r.b ||| r.c &&& (r.a ||| r.b))
def s5s (r : R8w) (x y : BitVec 64) : R8w := ⟨x + y, r.a, r.b, r.c, r.d + x, r.e, r.f, r.g⟩
/-- The ring of words and the registers, after t rounds. -/
def s5To (ks w0 : List (BitVec 64)) (r0 : R8w) : Nat → List (BitVec 64) × R8w
  | 0 => (w0, r0)
  | t + 1 => let p := s5To ks w0 r0 t; (s5w p.1 t, s5s p.2 (s5x p.2 (ks[t]?.getD 0#64) ((s5w p.1 t)[t % 16]?.getD 0#64)) (s5y p.2))
theorem s5w_length (w : List (BitVec 64)) (t : Nat) : (s5w w t).length = w.length := by unfold s5w; split <;> simp
theorem s5w_get (w : List (BitVec 64)) (t : Nat) (h : ¬ 16 ≤ t) : s5w w t = w := if_neg h
theorem s5To_length (ks w0 : List (BitVec 64)) (r0 : R8w) (t : Nat) : (s5To ks w0 r0 t).1.length = w0.length := by
  induction t with
  | zero => rfl
  | succ t ih => simp only [s5To, s5w_length, ih]
theorem s5_step {ks w0 xs ys : List (BitVec 64)} {r0 : R8w} {t : Nat} {a b c d e f g h : BitVec 64} (hS : s5To ks w0 r0 t = (xs, ⟨a, b, c, d, e, f, g, h⟩)) (hx : s5w xs t = ys) :
    s5To ks w0 r0 (t + 1) = (ys, ⟨h + turn3 e 14 18 41 false + (g ^^^ e &&& (f ^^^ g)) + ks[t]?.getD 0#64 + ys[t % 16]?.getD 0#64 + (turn3 a 28 34 39 false + (a &&& b ||| c &&& (a ||| b))), a, b, c, d + (h + turn3 e 14 18 41 false + (g ^^^ e &&& (f ^^^ g)) + ks[t]?.getD 0#64 + ys[t % 16]?.getD 0#64), e, f, g⟩) := by
  subst hx
  simp only [s5To, hS, s5s, s5x, s5y]
/-- The first n registers added. -/
def s5add (s h : List (BitVec 64)) : Nat → List (BitVec 64)
  | 0 => s
  | n + 1 => (s5add s h n).set n ((s5add s h n)[n]?.getD 0#64 + h[n]?.getD 0#64)
theorem s5add_length (s h : List (BitVec 64)) (n : Nat) : (s5add s h n).length = s.length := by
  induction n with
  | zero => rfl
  | succ n ih => simp only [s5add, List.length_set, ih]

theorem info_x16 : (Tryd.prog.info? 158).map (·.size) = some 16 := by kernel_rfl
theorem info_x8 : (Tryd.prog.info? 76).map (·.size) = some 8 := by kernel_rfl
def w64To (bs : List (BitVec 8)) : Nat → List (BitVec 64)
  | 0 => List.replicate 16 0#64
  | n + 1 => (w64To bs n).set (n / 8) ((w64To bs n)[n / 8]?.getD 0#64 <<< 8 ||| (bs[n]?.getD 0#8).setWidth 64)
theorem w64To_length (bs : List (BitVec 8)) (n : Nat) : (w64To bs n).length = 16 := by
  induction n with
  | zero => simp [w64To]
  | succ n ih => simp only [w64To, List.length_set, ih]

attribute [local go_sem] iw_or64 iw_xor64 iw_and64 iw_add64 iw_add64w iw_shl8_64 iw_shl8_64w iw_cast64 iw_cast64w

set_option maxHeartbeats 8000000 in
set_option maxRecDepth 100000 in
theorem wide_calls (ks : List (BitVec 64)) (h0 h1 h2 h3 h4 h5 h6 h7 : BitVec 64) (A : Option Addr) (c : Nat) (bs : List (BitVec 8)) (w : World) (hr : Rd w .u8 A (iws bs)) (hl : 128 ≤ bs.length)
    (hK : ∀ i : Nat, i < 80 → w.cell? ⟨3, i, none⟩ = some (.int .u64 (iw (ks[i]?.getD 0#64)))) :
    Calls Tryd.prog 112 #[.agg #[.int .u64 (iw h0), .int .u64 (iw h1), .int .u64 (iw h2), .int .u64 (iw h3), .int .u64 (iw h4), .int .u64 (iw h5), .int .u64 (iw h6), .int .u64 (iw h7)], .slice A bs.length c] w fun e w' => ∃ r, (s5To ks (w64To bs 128) ⟨h0, h1, h2, h3, h4, h5, h6, h7⟩ 80).2 = r ∧
      e = .returned (.agg (nums .u64 (iws (s5add [r.a, r.b, r.c, r.d, r.e, r.f, r.g, r.h] [h0, h1, h2, h3, h4, h5, h6, h7] 8))).toArray) ∧ Below w.heap.size w w' := by
  have hinfo : (Tryd.prog.info? 76).map (·.size) = some 8 := info_x8
  have HINFO := Lib.hid hinfo
  clear hinfo
  have hll := hr.1
  rw [iws_length] at hll
  obtain ⟨A, rfl, hA⟩ := hr.at_ (by rw [iws_length]; omega)
  have hz : w.heap.size + 1 < w.heap.size + 2 := by omega
  go_enter Tryd.func112, Tryd.ntmps112
  go_wp2
  go_loopw [13] (fun i wr => ∃ n : Nat, n ≤ 128 ∧ i = .int .i64 n ∧ Arr wr (w.heap.size + 2) .u64 158 (iws (w64To bs n)) ∧ wr.heap[w.heap.size]? = some (.cells #[.int .u64 (iw h0), .int .u64 (iw h1), .int .u64 (iw h2), .int .u64 (iw h3), .int .u64 (iw h4), .int .u64 (iw h5), .int .u64 (iw h6), .int .u64 (iw h7)] 76 (0, 0)) ∧ wr.heap[w.heap.size + 1]? = some (.cells #[.int .u64 0, .int .u64 0, .int .u64 0, .int .u64 0, .int .u64 0, .int .u64 0, .int .u64 0, .int .u64 0] 76 (0, 0)) ∧ Below w.heap.size w wr ∧ wr.heap.size = w.heap.size + 3) (fun i _ => 128 - (intOf i).toNat)
  case atStart =>
    refine ⟨0, by omega, rfl, ⟨?_⟩, ?_, ?_, below_alloc (below_alloc (below_alloc (Below.refl _ _) _) _) _, by simp⟩
    · have := heap_alloc_new ((w.alloc (.cells #[.int .u64 (iw h0), .int .u64 (iw h1), .int .u64 (iw h2), .int .u64 (iw h3), .int .u64 (iw h4), .int .u64 (iw h5), .int .u64 (iw h6), .int .u64 (iw h7)] 76)).alloc (.cells #[.int .u64 0, .int .u64 0, .int .u64 0, .int .u64 0, .int .u64 0, .int .u64 0, .int .u64 0, .int .u64 0] 76)) (.cells #[Value.int .u64 0, Value.int .u64 0, Value.int .u64 0, Value.int .u64 0, Value.int .u64 0, Value.int .u64 0, Value.int .u64 0, Value.int .u64 0, Value.int .u64 0, Value.int .u64 0, Value.int .u64 0, Value.int .u64 0, Value.int .u64 0, Value.int .u64 0, Value.int .u64 0, Value.int .u64 0] 158)
      simpa [w64To, iws, nums, iw, List.replicate] using this
    · exact blk_alloc (blk_alloc (heap_alloc_new w _) _) _
    · have := heap_alloc_new (w.alloc (.cells #[.int .u64 (iw h0), .int .u64 (iw h1), .int .u64 (iw h2), .int .u64 (iw h3), .int .u64 (iw h4), .int .u64 (iw h5), .int .u64 (iw h6), .int .u64 (iw h7)] 76)) (.cells #[.int .u64 0, .int .u64 0, .int .u64 0, .int .u64 0, .int .u64 0, .int .u64 0, .int .u64 0, .int .u64 0] 76)
      exact blk_alloc (by simpa using this) _
  case round =>
    obtain ⟨n, hn, rfl, hX, hH, hR, hb, hsz⟩ := hrel
    by_cases hlt : n < 128
    · have cb := cell_below hb (hA n (by omega) (by rw [iws_length]; omega))
      rw [iws_rd] at cb
      have c0 := hX.cellW ((n : Int) / 8) (n / 8) (by omega) (by rw [w64To_length]; omega)
      have f0 := hX.free (((n : Int) / 8).toNat)
      have en : ((n : Int)).toNat = n := by omega
      rw [en] at cb
      rw [List.getD_eq_getElem?_getD] at cb
      clear hA hr en hK
      have HSZ := Lib.hid hsz
      clear hsz
      go_wp2
      refine reg_tail 14 mixed (by as_aux_lemma => kernel_rfl) ?_
      simp only [List.take_succ_cons, List.take_zero, List.drop_succ_cons, List.drop_zero]
      repeat (refine wpStill_step (fun K hK => ?_); go_simp; (try simp (disch := omega) only [wi64, wu32, wu8, wu64, tmn, tdn]); (try (rw [if_pos (by omega)]; go_simp)); refine hK _ ?_; clear hK K)
      refine wpStill_nil ?_
      go_wp2
      go_roundw
      case rel =>
        refine ⟨n + 1, by omega, by go_num, ?_, blk_other hH (by simp; omega) _, blk_other hR (by simp) _, hb.drew.setCell (by simp; omega) _, by simpa using HSZ.out⟩
        exact iws_set (w64To bs n) _ _ ▸ hX.drew.set _ _
      case measure => simp [intOf]; omega
    · obtain rfl : n = 128 := by omega
      rw [show ((128 : Nat) : Int) = 128 from rfl]
      have hD2 := heap_alloc_new wr (.cells #[.int .u64 (iw h0), .int .u64 (iw h1), .int .u64 (iw h2), .int .u64 (iw h3), .int .u64 (iw h4), .int .u64 (iw h5), .int .u64 (iw h6), .int .u64 (iw h7)] 76)
      have hH3 := blk_alloc hH (.cells #[.int .u64 (iw h0), .int .u64 (iw h1), .int .u64 (iw h2), .int .u64 (iw h3), .int .u64 (iw h4), .int .u64 (iw h5), .int .u64 (iw h6), .int .u64 (iw h7)] 76)
      have hR3 := blk_alloc hR (.cells #[.int .u64 (iw h0), .int .u64 (iw h1), .int .u64 (iw h2), .int .u64 (iw h3), .int .u64 (iw h4), .int .u64 (iw h5), .int .u64 (iw h6), .int .u64 (iw h7)] 76)
      have hX3 := hX.alloc (.cells #[.int .u64 (iw h0), .int .u64 (iw h1), .int .u64 (iw h2), .int .u64 (iw h3), .int .u64 (iw h4), .int .u64 (iw h5), .int .u64 (iw h6), .int .u64 (iw h7)] 76)
      have hb3 := below_alloc hb (.cells #[.int .u64 (iw h0), .int .u64 (iw h1), .int .u64 (iw h2), .int .u64 (iw h3), .int .u64 (iw h4), .int .u64 (iw h5), .int .u64 (iw h6), .int .u64 (iw h7)] 76)
      have HH := Lib.hid hH
      have hBD : w.heap.size + 2 < wr.heap.size := by omega
      clear hsz hlt hn hX hb hR hA hH
      go_wp2_with (first | (refine wpList_load_row rfl 76 _ rfl w.heap.size rfl _ _ _ _ HH.out Tryd.underlying76 rfl HINFO.out ?_) | (refine wpList_store_new rfl 76 _ _ rfl #[.int .u64 (iw h0), .int .u64 (iw h1), .int .u64 (iw h2), .int .u64 (iw h3), .int .u64 (iw h4), .int .u64 (iw h5), .int .u64 (iw h6), .int .u64 (iw h7)] rfl rfl _ _ HINFO.out rfl (by simp [Value.oneCell']) ?_))
      generalize hw3 : wr.alloc (.cells #[.int .u64 (iw h0), .int .u64 (iw h1), .int .u64 (iw h2), .int .u64 (iw h3), .int .u64 (iw h4), .int .u64 (iw h5), .int .u64 (iw h6), .int .u64 (iw h7)] 76) = w3 at *
      generalize hD : wr.heap.size = D at *
      clear hw3 hD HH
      generalize hB : w.heap.size + 2 = B at *
      clear hB

      go_loopw [32] (fun i wr => ∃ n : Nat, n ≤ 80 ∧ i = .int .i64 n ∧ ∃ (xs : List (BitVec 64)) (a0 a1 a2 a3 a4 a5 a6 a7 : BitVec 64), Hid (s5To ks (w64To bs 128) ⟨h0, h1, h2, h3, h4, h5, h6, h7⟩ n = (xs, ⟨a0, a1, a2, a3, a4, a5, a6, a7⟩)) ∧
        Arr wr B .u64 158 (iws xs) ∧ wr.heap[D]? = some (.cells #[.int .u64 (iw a0), .int .u64 (iw a1), .int .u64 (iw a2), .int .u64 (iw a3), .int .u64 (iw a4), .int .u64 (iw a5), .int .u64 (iw a6), .int .u64 (iw a7)] 76 (0, 0)) ∧ wr.heap[w.heap.size]? = some (.cells #[.int .u64 (iw h0), .int .u64 (iw h1), .int .u64 (iw h2), .int .u64 (iw h3), .int .u64 (iw h4), .int .u64 (iw h5), .int .u64 (iw h6), .int .u64 (iw h7)] 76 (0, 0)) ∧ wr.heap[w.heap.size + 1]? = some (.cells #[.int .u64 0, .int .u64 0, .int .u64 0, .int .u64 0, .int .u64 0, .int .u64 0, .int .u64 0, .int .u64 0] 76 (0, 0)) ∧ Below w.heap.size w wr) (fun i _ => 80 - (intOf i).toNat)
      case atStart => exact ⟨0, by omega, rfl, _, _, _, _, _, _, _, _, _, Lib.hid rfl, hX3, hD2, hH3, hR3, hb3⟩
      case round =>
        clear hX3 hD2 hH3 hR3 hb3
        obtain ⟨n, hn, rfl, xs, a0, a1, a2, a3, a4, a5, a6, a7, hS, hX, hD, hH, hR, hb⟩ := hrel
        have hlen : xs.length = 16 := by have := s5To_length ks (w64To bs 128) ⟨h0, h1, h2, h3, h4, h5, h6, h7⟩ n; rw [hS.out] at this; rw [this]; exact by simpa using w64To_length bs 128
        have HL := Lib.hid hlen
        clear hlen
        by_cases hlt : n < 80
        · have kf := cell_below hb (hK n hlt)
          have hkg : 3 < w.heap.size := World.block_lt_of_cell? w _ (hK n hlt)
          clear hK
          go_upto_if 38 with (fail)
          go_cut [] (fun wc => ∃ ys : List (BitVec 64), Hid (s5w xs n = ys) ∧ Arr wc B .u64 158 (iws ys) ∧ wc.heap[D]? = some (.cells #[.int .u64 (iw a0), .int .u64 (iw a1), .int .u64 (iw a2), .int .u64 (iw a3), .int .u64 (iw a4), .int .u64 (iw a5), .int .u64 (iw a6), .int .u64 (iw a7)] 76 (0, 0)) ∧ wc.heap[w.heap.size]? = some (.cells #[.int .u64 (iw h0), .int .u64 (iw h1), .int .u64 (iw h2), .int .u64 (iw h3), .int .u64 (iw h4), .int .u64 (iw h5), .int .u64 (iw h6), .int .u64 (iw h7)] 76 (0, 0)) ∧ wc.heap[w.heap.size + 1]? = some (.cells #[.int .u64 0, .int .u64 0, .int .u64 0, .int .u64 0, .int .u64 0, .int .u64 0, .int .u64 0, .int .u64 0] 76 (0, 0)) ∧ Below w.heap.size w wc ∧ wc.cell? ⟨3, n, none⟩ = some (.int .u64 (iw (ks[n]?.getD 0#64))))
          case first =>
            by_cases h16 : n < 16
            · have e := Lib.hid (s5w_get xs n (by omega))
              go_wp2
              go_meet
              exact ⟨xs, e, hX, hD, hH, hR, hb, kf⟩
            · have c0 := hX.cellW ((n : Int) % 16) (n % 16) (by omega) (by rw [HL.out]; omega)
              have c14 := hX.cellW (((n : Int) + 14) % 16) ((n + 14) % 16) (by omega) (by rw [HL.out]; omega)
              have c9 := hX.cellW (((n : Int) + 9) % 16) ((n + 9) % 16) (by omega) (by rw [HL.out]; omega)
              have c1 := hX.cellW (((n : Int) + 1) % 16) ((n + 1) % 16) (by omega) (by rw [HL.out]; omega)
              have f0 := hX.free (((n : Int) % 16).toNat)
              have e16 : (n : Int) % 16 = ((n % 16 : Nat) : Int) := by omega
              have ex : s5w xs n = _ := if_pos (by omega)
              have EX := Lib.hid ex
              clear ex e16
              go_wp2
              refine reg_tail 24 mixed (by as_aux_lemma => kernel_rfl) ?_
              simp only [List.take_succ_cons, List.take_zero, List.drop_succ_cons, List.drop_zero]
              repeat (first | (refine wpStill_step (fun K hK => ?_); go_simp; (try simp (disch := omega) only [wi64, wu32, wu8, wu64, tmn, tdn]); (try (rw [if_pos (by omega)]; go_simp)); refine hK _ ?_; clear hK K) | (refine wpStill_step (fun K hK => ?_); go_simp; (with_reducible refine ⟨_, (wturns_calls2 _ _ _ _ (by omega) (by omega) (by omega) (by omega) (by omega) (by omega) _ _).mono (fun _ _ h_ => ⟨h_.1, h_.2.symm⟩), hK _ ?_⟩); clear hK K))
              refine wpStill_nil ?_
              go_wp2
              go_meet
              exact ⟨_, EX, iws_set xs _ _ ▸ hX.drew.set _ _, blk_other hD (by simp; omega) _, blk_other hH (by simp; omega) _, blk_other hR (by simp; omega) _, hb.drew.setCell (by simp; omega) _, cell_other (p := ⟨B, n % 16, none⟩) kf (by simp; omega) _⟩
          case rest =>
            obtain ⟨ys, HY, hX, hD, hH, hR, hb, kf⟩ := hcut
            have hlen : ys.length = 16 := by rw [← HY.out, s5w_length]; exact HL.out
            have HL' := Lib.hid hlen
            clear hlen HL
            have c0 := hX.cellW ((n : Int) % 16) (n % 16) (by omega) (by rw [HL'.out]; omega)
            have s0 := blk_cell hD 0
            have s1 := blk_cell hD 1
            have s2 := blk_cell hD 2
            have s3 := blk_cell hD 3
            have s4 := blk_cell hD 4
            have s5 := blk_cell hD 5
            have s6 := blk_cell hD 6
            have s7 := blk_cell hD 7
            simp only [List.getElem?_toArray, List.getElem?_cons_zero, List.getElem?_cons_succ] at s0 s1 s2 s3 s4 s5 s6 s7
            have T := s5_step hS.out HY.out
            have HT := Lib.hid T
            clear T
            go_wp2
            refine reg_still mixed (by as_aux_lemma => kernel_rfl) ?_
            repeat (first | (refine wpStill_step (fun K hK => ?_); go_simp; (try simp (disch := omega) only [wi64, wu32, wu8, wu64, tmn, tdn]); (try (rw [if_pos (by omega)]; go_simp)); refine hK _ ?_; clear hK K) | (refine wpStill_step (fun K hK => ?_); go_simp; (with_reducible refine ⟨_, (wturns_calls2 _ _ _ _ (by omega) (by omega) (by omega) (by omega) (by omega) (by omega) _ _).mono (fun _ _ h_ => ⟨h_.1, h_.2.symm⟩), hK _ ?_⟩); clear hK K))
            refine wpStill_nil ?_
            go_wp2
            refine reg_still mixed (by as_aux_lemma => kernel_rfl) ?_
            repeat (first | (refine wpStill_step (fun K hK => ?_); go_simp; (try simp (disch := omega) only [wi64, wu32, wu8, wu64, tmn, tdn]); (try (rw [if_pos (by omega)]; go_simp)); refine hK _ ?_; clear hK K) | (refine wpStill_step (fun K hK => ?_); go_simp; (with_reducible refine ⟨_, (wturns_calls2 _ _ _ _ (by omega) (by omega) (by omega) (by omega) (by omega) (by omega) _ _).mono (fun _ _ h_ => ⟨h_.1, h_.2.symm⟩), hK _ ?_⟩); clear hK K))
            refine wpStill_nil ?_
            go_wp2_with (refine wpList_store_row rfl 76 _ _ rfl D _ rfl rfl _ _ hD (by exact info_x8) (by rfl) (by simp [Value.oneCell']) ?_)
            go_roundw
            case rel => exact ⟨n + 1, by omega, by go_num, _, _, _, _, _, _, _, _, _, HT, hX.drew.drew.setRow_other (by omega) _, setRow_heap _ D _ _ _ _ hD, blk_setRow hH (by omega) _, blk_setRow hR (by omega) _, below_setRow hb.drew.drew (by omega) _⟩
            case measure => simp [intOf]; omega
        · obtain rfl : n = 80 := by omega
          have hA : Arr wr D .u64 76 (iws [a0, a1, a2, a3, a4, a5, a6, a7]) := ⟨hD⟩
          have hHA : Arr wr w.heap.size .u64 76 (iws [h0, h1, h2, h3, h4, h5, h6, h7]) := ⟨hH⟩
          generalize hs0 : [a0, a1, a2, a3, a4, a5, a6, a7] = s0 at hA
          generalize hh0 : [h0, h1, h2, h3, h4, h5, h6, h7] = h0s at hHA
          have ls : s0.length = 8 := by rw [← hs0]; rfl
          have lh : h0s.length = 8 := by rw [← hh0]; rfl
          have LS := Lib.hid ls
          have LH := Lib.hid lh
          have HS0 := Lib.hid hs0
          have HH0 := Lib.hid hh0
          clear ls lh hs0 hh0 hD hH hX hK HL
          rw [show ((80 : Nat) : Int) = 80 from rfl]
          go_wp2
          go_loopw [128] (fun i wv => ∃ n : Nat, n ≤ 8 ∧ i = .int .i64 n ∧ Arr wv D .u64 76 (iws (s5add s0 h0s n)) ∧ Arr wv w.heap.size .u64 76 (iws h0s) ∧ wv.heap[w.heap.size + 1]? = some (.cells #[.int .u64 0, .int .u64 0, .int .u64 0, .int .u64 0, .int .u64 0, .int .u64 0, .int .u64 0, .int .u64 0] 76 (0, 0)) ∧ Below w.heap.size w wv) (fun i _ => 8 - (intOf i).toNat)
          case atStart => exact ⟨0, by omega, rfl, hA, hHA, hR, hb⟩
          case round =>
            clear hA hHA hR hb
            obtain ⟨n, hn, rfl, hA, hHA, hR, hb⟩ := hrel
            by_cases hlt : n < 8
            · have c0 := hA.cellN n (by rw [s5add_length, LS.out]; omega)
              have c1 := hHA.cellN n (by rw [LH.out]; omega)
              have f0 := hA.free n
              go_wp2
              refine reg_tail 8 mixed (by as_aux_lemma => kernel_rfl) ?_
              simp only [List.take_succ_cons, List.take_zero, List.drop_succ_cons, List.drop_zero]
              repeat (refine wpStill_step (fun K hK => ?_); go_simp; (try simp (disch := omega) only [wi64, wu32, wu8, wu64, tmn, tdn]); (try (rw [if_pos (by omega)]; go_simp)); refine hK _ ?_; clear hK K)
              refine wpStill_nil ?_
              go_wp2
              go_roundw
              case rel => exact ⟨n + 1, by omega, by go_num, iws_set (s5add s0 h0s n) _ _ ▸ hA.drew.set _ _, hHA.drew.other (by simp; omega) _, blk_other hR (by simp; omega) _, hb.drew.setCell (by simp; omega) _⟩
              case measure => simp [intOf]; omega
            · obtain rfl : n = 8 := by omega
              have hi : (Tryd.prog.info? 76).map (·.size) = some (nums .u64 (iws (s5add s0 h0s 8))).toArray.size := by rw [nums_size, iws_length, s5add_length, LS.out]; exact info_x8
              have ho : #[Value.int .u64 0, Value.int .u64 0, Value.int .u64 0, Value.int .u64 0, Value.int .u64 0, Value.int .u64 0, Value.int .u64 0, Value.int .u64 0].size = (nums .u64 (iws (s5add s0 h0s 8))).toArray.size := by rw [nums_size, iws_length, s5add_length, LS.out]; rfl
              have HI := Lib.hid hi
              have HO := Lib.hid ho
              clear hi ho
              go_wp2_with (first | (refine wpList_load_row rfl 76 _ rfl D rfl _ _ _ _ hA.out Tryd.underlying76 rfl HI.out ?_) | (refine wpList_store_row rfl 76 _ _ rfl (w.heap.size + 1) _ rfl rfl _ _ hR HI.out HO.out (nums_one _ _) ?_))
              refine bodyPost_ret (results_cell_row rfl _ _ (w.heap.size + 1) _ _ _ _ rfl (setRow_heap _ _ _ _ _ _ hR) Tryd.underlying76 rfl HI.out) rfl ⟨⟨a0, a1, a2, a3, a4, a5, a6, a7⟩, by rw [hS.out], by rw [HS0.out, HH0.out], below_setRow hb (by omega) _⟩
end Go.Proofs.YtdncmmipopdhbaaDoor.Sha
end
