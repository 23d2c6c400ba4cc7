/-
  Parts of the walks and of the plain laws below the statement (Two). Texts named F.. are what the kit's print writes for one function each, through a program of mine that hands it contracts of the functions that it does not take.
-/
import Derived.Test.YtdncmmipopdhbaaDoorCk2
import Derived.Deep.DeepCutAuto
import Derived.Deep.CutBlock
section
/-
  Walk: digest.two, the mixing of one block of SHA-256.
-/
set_option linter.unusedVariables false
set_option linter.unusedSimpArgs false
namespace Go.Proofs.YtdncmmipopdhbaaDoor.Sha
open Go.RowKit Go.Proofs.YtdncmmipopdhbaaDoor.K

structure R8 where
  (a b c d e f g h : BitVec 32)
def s2w (w : List (BitVec 32)) (t : Nat) : List (BitVec 32) :=
  if 16 ≤ t then w.set (t % 16) (w[t % 16]?.getD 0#32 + (turn3 (w[(t + 14) % 16]?.getD 0#32) 17 19 10 true + w[(t + 9) % 16]?.getD 0#32 + turn3 (w[(t + 1) % 16]?.getD 0#32) 7 18 3 true)) else w
def s2x (r : R8) (k x : BitVec 32) : BitVec 32 := r.h + turn3 r.e 6 11 25 false + (r.g ^^^ r.e &&& (r.f ^^^ r.g)) + k + x
def s2y (r : R8) : BitVec 32 := turn3 r.a 2 13 22 false + (r.a &&& r.b ||| r.c &&& (r.a ||| r.b))
def s2s (r : R8) (x y : BitVec 32) : R8 := ⟨x + y, r.a, r.b, r.c, r.d + x, r.e, r.f, r.g⟩
/-- The ring of words and the registers, after t rounds. -/
def s2To (ks w0 : List (BitVec 32)) (r0 : R8) : Nat → List (BitVec 32) × R8
  | 0 => (w0, r0)
  | t + 1 => let p := s2To ks w0 r0 t; (s2w p.1 t, s2s p.2 (s2x p.2 (ks[t]?.getD 0#32) ((s2w p.1 t)[t % 16]?.getD 0#32)) (s2y p.2))
theorem s2w_length (w : List (BitVec 32)) (t : Nat) : (s2w w t).length = w.length := by unfold s2w; split <;> simp
theorem s2w_get (w : List (BitVec 32)) (t : Nat) (h : ¬ 16 ≤ t) : s2w w t = w := if_neg h
theorem s2To_length (ks w0 : List (BitVec 32)) (r0 : R8) (t : Nat) : (s2To ks w0 r0 t).1.length = w0.length := by
  induction t with
  | zero => rfl
  | succ t ih => simp only [s2To, s2w_length, ih]
theorem s2_step {ks w0 xs ys : List (BitVec 32)} {r0 : R8} {t : Nat} {a b c d e f g h : BitVec 32} (hS : s2To ks w0 r0 t = (xs, ⟨a, b, c, d, e, f, g, h⟩)) (hx : s2w xs t = ys) :
    s2To ks w0 r0 (t + 1) = (ys, ⟨h + turn3 e 6 11 25 false + (g ^^^ e &&& (f ^^^ g)) + ks[t]?.getD 0#32 + ys[t % 16]?.getD 0#32 + (turn3 a 2 13 22 false + (a &&& b ||| c &&& (a ||| b))), a, b, c, d + (h + turn3 e 6 11 25 false + (g ^^^ e &&& (f ^^^ g)) + ks[t]?.getD 0#32 + ys[t % 16]?.getD 0#32), e, f, g⟩) := by
  subst hx
  simp only [s2To, hS, s2s, s2x, s2y]
/-- The first n registers added. -/
def s2add (s h : List (BitVec 32)) : Nat → List (BitVec 32)
  | 0 => s
  | n + 1 => (s2add s h n).set n ((s2add s h n)[n]?.getD 0#32 + h[n]?.getD 0#32)
theorem s2add_length (s h : List (BitVec 32)) (n : Nat) : (s2add s h n).length = s.length := by
  induction n with
  | zero => rfl
  | succ n ih => simp only [s2add, List.length_set, ih]

theorem turns_calls2 (x : BitVec 32) (i k m : Int) (hi : 0 < i) (hi' : i < 32) (hk : 0 < k) (hk' : k < 32) (hm : 0 < m) (hm' : m < 32) (b : Bool) (w : World) :
    Calls Tryd.prog 118 #[.int .u32 (iw x), .int .i64 i, .int .i64 k, .int .i64 m, .bool b] w fun e w' => e = .returned (.int .u32 (iw (turn3 x i.toNat k.toNat m.toNat b))) ∧ w = w' := by
  obtain ⟨i, rfl⟩ := Int.eq_ofNat_of_zero_le (Int.le_of_lt hi)
  obtain ⟨k, rfl⟩ := Int.eq_ofNat_of_zero_le (Int.le_of_lt hk)
  obtain ⟨m, rfl⟩ := Int.eq_ofNat_of_zero_le (Int.le_of_lt hm)
  exact turns_calls x ⟨i, by omega⟩ ⟨k, by omega⟩ ⟨m, by omega⟩ (by show 0 < i; omega) (by show 0 < k; omega) (by show 0 < m; omega) b w
theorem wturns_calls2 (x : BitVec 64) (i k m : Int) (hi : 0 < i) (hi' : i < 64) (hk : 0 < k) (hk' : k < 64) (hm : 0 < m) (hm' : m < 64) (b : Bool) (w : World) :
    Calls Tryd.prog 119 #[.int .u64 (iw x), .int .i64 i, .int .i64 k, .int .i64 m, .bool b] w fun e w' => e = .returned (.int .u64 (iw (turn3 x i.toNat k.toNat m.toNat b))) ∧ w = w' := by
  obtain ⟨i, rfl⟩ := Int.eq_ofNat_of_zero_le (Int.le_of_lt hi)
  obtain ⟨k, rfl⟩ := Int.eq_ofNat_of_zero_le (Int.le_of_lt hk)
  obtain ⟨m, rfl⟩ := Int.eq_ofNat_of_zero_le (Int.le_of_lt hm)
  exact wturns_calls x ⟨i, by omega⟩ ⟨k, by omega⟩ ⟨m, by omega⟩ (by show 0 < i; omega) (by show 0 < k; omega) (by show 0 < m; omega) b w

attribute [local go_sem] iw_or32 iw_xor32 iw_and32 iw_add32 iw_add32w

set_option maxHeartbeats 8000000 in
set_option maxRecDepth 100000 in
theorem two_calls (ks : List (BitVec 32)) (h0 h1 h2 h3 h4 h5 h6 h7 : BitVec 32) (A : Option Addr) (c : Nat) (l : List Int) (w : World) (hr : Rd w .u8 A l) (hl : 64 ≤ l.length)
    (hK : ∀ i : Nat, i < 64 → w.cell? ⟨2, i, none⟩ = some (.int .u32 (iw (ks[i]?.getD 0#32)))) :
    Calls Tryd.prog 111 #[.agg #[.int .u32 (iw h0), .int .u32 (iw h1), .int .u32 (iw h2), .int .u32 (iw h3), .int .u32 (iw h4), .int .u32 (iw h5), .int .u32 (iw h6), .int .u32 (iw h7)], .slice A l.length c] w fun e w' => ∃ r, (s2To ks (wordsB l) ⟨h0, h1, h2, h3, h4, h5, h6, h7⟩ 64).2 = r ∧
      e = .returned (.agg (nums .u32 (iws (s2add [r.a, r.b, r.c, r.d, r.e, r.f, r.g, r.h] [h0, h1, h2, h3, h4, h5, h6, h7] 8))).toArray) ∧ Below w.heap.size w w' := by
  go_enter Tryd.func111, Tryd.ntmps111
  go_wp2_with fail
  refine (words_calls A c l _ (by exact (hr.alloc _).alloc _) hl).mono ?_
  rintro e w1 ⟨rfl, hb1⟩
  rw [wordsTo_B]
  have hH : w1.heap[w.heap.size]? = some (.cells #[.int .u32 (iw h0), .int .u32 (iw h1), .int .u32 (iw h2), .int .u32 (iw h3), .int .u32 (iw h4), .int .u32 (iw h5), .int .u32 (iw h6), .int .u32 (iw h7)] 110 (0, 0)) := blk_below (blk_alloc (heap_alloc_new w _) _) hb1 (by simp; omega)
  have hR : w1.heap[w.heap.size + 1]? = some (.cells #[.int .u32 0, .int .u32 0, .int .u32 0, .int .u32 0, .int .u32 0, .int .u32 0, .int .u32 0, .int .u32 0] 110 (0, 0)) := blk_below (by have := heap_alloc_new (w.alloc (.cells #[.int .u32 (iw h0), .int .u32 (iw h1), .int .u32 (iw h2), .int .u32 (iw h3), .int .u32 (iw h4), .int .u32 (iw h5), .int .u32 (iw h6), .int .u32 (iw h7)] 110)) (.cells #[.int .u32 0, .int .u32 0, .int .u32 0, .int .u32 0, .int .u32 0, .int .u32 0, .int .u32 0, .int .u32 0] 110); simpa using this) hb1 (by simp)
  have hz : w.heap.size + 1 < w1.heap.size := by have := hb1.size; simp at this; omega
  have hb : Below w.heap.size w w1 := below_then (below_alloc (below_alloc (Below.refl _ _) _) _) hb1 (by simp)
  have hi16 : (Tryd.prog.info? 155).map (·.size) = some (nums .u32 (iws (wordsB l))).toArray.size := by rw [nums_size, iws_length, wordsB_length]; exact info_w16
  have h16 : #[Value.int .u32 0, Value.int .u32 0, Value.int .u32 0, Value.int .u32 0, Value.int .u32 0, Value.int .u32 0, Value.int .u32 0, Value.int .u32 0, Value.int .u32 0, Value.int .u32 0, Value.int .u32 0, Value.int .u32 0, Value.int .u32 0, Value.int .u32 0, Value.int .u32 0, Value.int .u32 0].size = (nums .u32 (iws (wordsB l))).toArray.size := by rw [nums_size, iws_length, wordsB_length]; rfl
  have HI := Lib.hid hi16
  have H16 := Lib.hid h16
  clear hi16 h16 hb1
  obtain ⟨w2, hw2⟩ : ∃ w2, w1.alloc (.cells (nums .u32 (iws (wordsB l))).toArray 155) = w2 := ⟨_, rfl⟩
  have hH2 := blk_alloc hH (.cells (nums .u32 (iws (wordsB l))).toArray 155)
  have hR2 := blk_alloc hR (.cells (nums .u32 (iws (wordsB l))).toArray 155)
  have hX2 := Arr.new w1 .u32 155 (iws (wordsB l))
  have hb2 := below_alloc hb (.cells (nums .u32 (iws (wordsB l))).toArray 155)
  have hz2 : (w1.alloc (.cells (nums .u32 (iws (wordsB l))).toArray 155)).heap.size = w1.heap.size + 1 := by simp
  rw [hw2] at hH2 hR2 hX2 hb2 hz2
  have HW := Lib.hid hw2
  have HZ := Lib.hid hz2
  clear hw2 hz2 hH hR
  go_wp2_with (first | (refine wpList_store_new rfl 155 _ _ rfl _ rfl rfl _ _ HI.out H16.out (nums_one _ _) ?_; rw [HW.out]) | (refine wpList_load_row rfl 110 _ rfl w.heap.size rfl _ _ _ _ hH2 Tryd.underlying110 rfl info_w8 ?_) | (refine wpList_store_new rfl 110 _ _ rfl #[.int .u32 (iw h0), .int .u32 (iw h1), .int .u32 (iw h2), .int .u32 (iw h3), .int .u32 (iw h4), .int .u32 (iw h5), .int .u32 (iw h6), .int .u32 (iw h7)] rfl rfl _ _ info_w8 rfl (by simp [Value.oneCell']) ?_))
  have hD2 := heap_alloc_new w2 (.cells #[.int .u32 (iw h0), .int .u32 (iw h1), .int .u32 (iw h2), .int .u32 (iw h3), .int .u32 (iw h4), .int .u32 (iw h5), .int .u32 (iw h6), .int .u32 (iw h7)] 110)
  have hH3 := blk_alloc hH2 (.cells #[.int .u32 (iw h0), .int .u32 (iw h1), .int .u32 (iw h2), .int .u32 (iw h3), .int .u32 (iw h4), .int .u32 (iw h5), .int .u32 (iw h6), .int .u32 (iw h7)] 110)
  have hR3 := blk_alloc hR2 (.cells #[.int .u32 (iw h0), .int .u32 (iw h1), .int .u32 (iw h2), .int .u32 (iw h3), .int .u32 (iw h4), .int .u32 (iw h5), .int .u32 (iw h6), .int .u32 (iw h7)] 110)
  have hX3 := hX2.alloc (.cells #[.int .u32 (iw h0), .int .u32 (iw h1), .int .u32 (iw h2), .int .u32 (iw h3), .int .u32 (iw h4), .int .u32 (iw h5), .int .u32 (iw h6), .int .u32 (iw h7)] 110)
  have hb3 := below_alloc hb2 (.cells #[.int .u32 (iw h0), .int .u32 (iw h1), .int .u32 (iw h2), .int .u32 (iw h3), .int .u32 (iw h4), .int .u32 (iw h5), .int .u32 (iw h6), .int .u32 (iw h7)] 110)
  generalize hw3 : w2.alloc (.cells #[.int .u32 (iw h0), .int .u32 (iw h1), .int .u32 (iw h2), .int .u32 (iw h3), .int .u32 (iw h4), .int .u32 (iw h5), .int .u32 (iw h6), .int .u32 (iw h7)] 110) = w3 at *
  have hBD : w1.heap.size < w2.heap.size := by rw [HZ.out]; omega
  clear hw3 HW HZ hH2 hR2 hX2 hb2 HI H16 hb
  generalize hB : w1.heap.size = B at *
  generalize hD : w2.heap.size = D at *
  clear hB hD w1 w2

  go_loopw [15] (fun i wr => ∃ n : Nat, n ≤ 64 ∧ i = .int .i64 n ∧ ∃ (xs : List (BitVec 32)) (a0 a1 a2 a3 a4 a5 a6 a7 : BitVec 32), Hid (s2To ks (wordsB l) ⟨h0, h1, h2, h3, h4, h5, h6, h7⟩ n = (xs, ⟨a0, a1, a2, a3, a4, a5, a6, a7⟩)) ∧
    Arr wr B .u32 155 (iws xs) ∧ wr.heap[D]? = some (.cells #[.int .u32 (iw a0), .int .u32 (iw a1), .int .u32 (iw a2), .int .u32 (iw a3), .int .u32 (iw a4), .int .u32 (iw a5), .int .u32 (iw a6), .int .u32 (iw a7)] 110 (0, 0)) ∧ wr.heap[w.heap.size]? = some (.cells #[.int .u32 (iw h0), .int .u32 (iw h1), .int .u32 (iw h2), .int .u32 (iw h3), .int .u32 (iw h4), .int .u32 (iw h5), .int .u32 (iw h6), .int .u32 (iw h7)] 110 (0, 0)) ∧ wr.heap[w.heap.size + 1]? = some (.cells #[.int .u32 0, .int .u32 0, .int .u32 0, .int .u32 0, .int .u32 0, .int .u32 0, .int .u32 0, .int .u32 0] 110 (0, 0)) ∧ Below w.heap.size w wr) (fun i _ => 64 - (intOf i).toNat)
  case atStart => exact ⟨0, by omega, rfl, _, _, _, _, _, _, _, _, _, Lib.hid rfl, hX3, hD2, hH3, hR3, hb3⟩
  case round =>
    clear hX3 hD2 hH3 hR3 hb3
    obtain ⟨n, hn, rfl, xs, a0, a1, a2, a3, a4, a5, a6, a7, hS, hX, hD, hH, hR, hb⟩ := hrel
    have hlen : xs.length = 16 := by have := s2To_length ks (wordsB l) ⟨h0, h1, h2, h3, h4, h5, h6, h7⟩ n; rw [hS.out] at this; rw [this]; exact wordsB_length l
    have HL := Lib.hid hlen
    clear hlen
    by_cases hlt : n < 64
    · have kf := cell_below hb (hK n hlt)
      have hkg : 2 < w.heap.size := World.block_lt_of_cell? w _ (hK n hlt)
      clear hK
      go_upto_if 21 with (fail)
      go_cut [] (fun wc => ∃ ys : List (BitVec 32), Hid (s2w xs n = ys) ∧ Arr wc B .u32 155 (iws ys) ∧ wc.heap[D]? = some (.cells #[.int .u32 (iw a0), .int .u32 (iw a1), .int .u32 (iw a2), .int .u32 (iw a3), .int .u32 (iw a4), .int .u32 (iw a5), .int .u32 (iw a6), .int .u32 (iw a7)] 110 (0, 0)) ∧ wc.heap[w.heap.size]? = some (.cells #[.int .u32 (iw h0), .int .u32 (iw h1), .int .u32 (iw h2), .int .u32 (iw h3), .int .u32 (iw h4), .int .u32 (iw h5), .int .u32 (iw h6), .int .u32 (iw h7)] 110 (0, 0)) ∧ wc.heap[w.heap.size + 1]? = some (.cells #[.int .u32 0, .int .u32 0, .int .u32 0, .int .u32 0, .int .u32 0, .int .u32 0, .int .u32 0, .int .u32 0] 110 (0, 0)) ∧ Below w.heap.size w wc ∧ wc.cell? ⟨2, n, none⟩ = some (.int .u32 (iw (ks[n]?.getD 0#32))))
      case first =>
        by_cases h16 : n < 16
        · have e := Lib.hid (s2w_get xs n (by omega))
          go_wp2
          go_meet
          exact ⟨xs, e, hX, hD, hH, hR, hb, kf⟩
        · have c0 := hX.cellW ((n : Int) % 16) (n % 16) (by omega) (by rw [HL.out]; omega)
          have c14 := hX.cellW (((n : Int) + 14) % 16) ((n + 14) % 16) (by omega) (by rw [HL.out]; omega)
          have c9 := hX.cellW (((n : Int) + 9) % 16) ((n + 9) % 16) (by omega) (by rw [HL.out]; omega)
          have c1 := hX.cellW (((n : Int) + 1) % 16) ((n + 1) % 16) (by omega) (by rw [HL.out]; omega)
          have f0 := hX.free (((n : Int) % 16).toNat)
          have e16 : (n : Int) % 16 = ((n % 16 : Nat) : Int) := by omega
          have ex : s2w xs n = _ := if_pos (by omega)
          have EX := Lib.hid ex
          clear ex e16
          go_wp2
          refine reg_tail 24 mixed (by as_aux_lemma => kernel_rfl) ?_
          simp only [List.take_succ_cons, List.take_zero, List.drop_succ_cons, List.drop_zero]
          repeat (first | (refine wpStill_step (fun K hK => ?_); go_simp; (try simp (disch := omega) only [wi64, wu32, wu8, wu64, tmn, tdn]); (try (rw [if_pos (by omega)]; go_simp)); refine hK _ ?_; clear hK K) | (refine wpStill_step (fun K hK => ?_); go_simp; (with_reducible refine ⟨_, (turns_calls2 _ _ _ _ (by omega) (by omega) (by omega) (by omega) (by omega) (by omega) _ _).mono (fun _ _ h_ => ⟨h_.1, h_.2.symm⟩), hK _ ?_⟩); clear hK K))
          refine wpStill_nil ?_
          go_wp2
          go_meet
          exact ⟨_, EX, iws_set xs _ _ ▸ hX.drew.set _ _, blk_other hD (by simp; omega) _, blk_other hH (by simp; omega) _, blk_other hR (by simp; omega) _, hb.drew.setCell (by simp; omega) _, cell_other (p := ⟨B, n % 16, none⟩) kf (by simp; omega) _⟩
      case rest =>
        obtain ⟨ys, HY, hX, hD, hH, hR, hb, kf⟩ := hcut
        have hlen : ys.length = 16 := by rw [← HY.out, s2w_length]; exact HL.out
        have HL' := Lib.hid hlen
        clear hlen HL
        have c0 := hX.cellW ((n : Int) % 16) (n % 16) (by omega) (by rw [HL'.out]; omega)
        have s0 := blk_cell hD 0
        have s1 := blk_cell hD 1
        have s2 := blk_cell hD 2
        have s3 := blk_cell hD 3
        have s4 := blk_cell hD 4
        have s5 := blk_cell hD 5
        have s6 := blk_cell hD 6
        have s7 := blk_cell hD 7
        simp only [List.getElem?_toArray, List.getElem?_cons_zero, List.getElem?_cons_succ] at s0 s1 s2 s3 s4 s5 s6 s7
        have T := s2_step hS.out HY.out
        have HT := Lib.hid T
        clear T
        go_wp2
        refine reg_still mixed (by as_aux_lemma => kernel_rfl) ?_
        repeat (first | (refine wpStill_step (fun K hK => ?_); go_simp; (try simp (disch := omega) only [wi64, wu32, wu8, wu64, tmn, tdn]); (try (rw [if_pos (by omega)]; go_simp)); refine hK _ ?_; clear hK K) | (refine wpStill_step (fun K hK => ?_); go_simp; (with_reducible refine ⟨_, (turns_calls2 _ _ _ _ (by omega) (by omega) (by omega) (by omega) (by omega) (by omega) _ _).mono (fun _ _ h_ => ⟨h_.1, h_.2.symm⟩), hK _ ?_⟩); clear hK K))
        refine wpStill_nil ?_
        go_wp2
        refine reg_still mixed (by as_aux_lemma => kernel_rfl) ?_
        repeat (first | (refine wpStill_step (fun K hK => ?_); go_simp; (try simp (disch := omega) only [wi64, wu32, wu8, wu64, tmn, tdn]); (try (rw [if_pos (by omega)]; go_simp)); refine hK _ ?_; clear hK K) | (refine wpStill_step (fun K hK => ?_); go_simp; (with_reducible refine ⟨_, (turns_calls2 _ _ _ _ (by omega) (by omega) (by omega) (by omega) (by omega) (by omega) _ _).mono (fun _ _ h_ => ⟨h_.1, h_.2.symm⟩), hK _ ?_⟩); clear hK K))
        refine wpStill_nil ?_
        go_wp2_with (refine wpList_store_row rfl 110 _ _ rfl D _ rfl rfl _ _ hD (by exact info_w8) (by rfl) (by simp [Value.oneCell']) ?_)
        go_roundw
        case rel => exact ⟨n + 1, by omega, by go_num, _, _, _, _, _, _, _, _, _, HT, hX.drew.drew.setRow_other (by omega) _, setRow_heap _ D _ _ _ _ hD, blk_setRow hH (by omega) _, blk_setRow hR (by omega) _, below_setRow hb.drew.drew (by omega) _⟩
        case measure => simp [intOf]; omega
    · obtain rfl : n = 64 := by omega
      have hA : Arr wr D .u32 110 (iws [a0, a1, a2, a3, a4, a5, a6, a7]) := ⟨hD⟩
      have hHA : Arr wr w.heap.size .u32 110 (iws [h0, h1, h2, h3, h4, h5, h6, h7]) := ⟨hH⟩
      generalize hs0 : [a0, a1, a2, a3, a4, a5, a6, a7] = s0 at hA
      generalize hh0 : [h0, h1, h2, h3, h4, h5, h6, h7] = h0s at hHA
      have ls : s0.length = 8 := by rw [← hs0]; rfl
      have lh : h0s.length = 8 := by rw [← hh0]; rfl
      have LS := Lib.hid ls
      have LH := Lib.hid lh
      have HS0 := Lib.hid hs0
      have HH0 := Lib.hid hh0
      clear ls lh hs0 hh0 hD hH hX hK HL
      rw [show ((64 : Nat) : Int) = 64 from rfl]
      go_wp2
      go_loopw [111] (fun i wv => ∃ n : Nat, n ≤ 8 ∧ i = .int .i64 n ∧ Arr wv D .u32 110 (iws (s2add s0 h0s n)) ∧ Arr wv w.heap.size .u32 110 (iws h0s) ∧ wv.heap[w.heap.size + 1]? = some (.cells #[.int .u32 0, .int .u32 0, .int .u32 0, .int .u32 0, .int .u32 0, .int .u32 0, .int .u32 0, .int .u32 0] 110 (0, 0)) ∧ Below w.heap.size w wv) (fun i _ => 8 - (intOf i).toNat)
      case atStart => exact ⟨0, by omega, rfl, hA, hHA, hR, hb⟩
      case round =>
        clear hA hHA hR hb
        obtain ⟨n, hn, rfl, hA, hHA, hR, hb⟩ := hrel
        by_cases hlt : n < 8
        · have c0 := hA.cellN n (by rw [s2add_length, LS.out]; omega)
          have c1 := hHA.cellN n (by rw [LH.out]; omega)
          have f0 := hA.free n
          go_wp2
          refine reg_tail 8 mixed (by as_aux_lemma => kernel_rfl) ?_
          simp only [List.take_succ_cons, List.take_zero, List.drop_succ_cons, List.drop_zero]
          repeat (refine wpStill_step (fun K hK => ?_); go_simp; (try simp (disch := omega) only [wi64, wu32, wu8, wu64, tmn, tdn]); (try (rw [if_pos (by omega)]; go_simp)); refine hK _ ?_; clear hK K)
          refine wpStill_nil ?_
          go_wp2
          go_roundw
          case rel => exact ⟨n + 1, by omega, by go_num, iws_set (s2add s0 h0s n) _ _ ▸ hA.drew.set _ _, hHA.drew.other (by simp; omega) _, blk_other hR (by simp; omega) _, hb.drew.setCell (by simp; omega) _⟩
          case measure => simp [intOf]; omega
        · obtain rfl : n = 8 := by omega
          have hi : (Tryd.prog.info? 110).map (·.size) = some (nums .u32 (iws (s2add s0 h0s 8))).toArray.size := by rw [nums_size, iws_length, s2add_length, LS.out]; exact info_w8
          have ho : #[Value.int .u32 0, Value.int .u32 0, Value.int .u32 0, Value.int .u32 0, Value.int .u32 0, Value.int .u32 0, Value.int .u32 0, Value.int .u32 0].size = (nums .u32 (iws (s2add s0 h0s 8))).toArray.size := by rw [nums_size, iws_length, s2add_length, LS.out]; rfl
          have HI := Lib.hid hi
          have HO := Lib.hid ho
          clear hi ho
          go_wp2_with (first | (refine wpList_load_row rfl 110 _ rfl D rfl _ _ _ _ hA.out Tryd.underlying110 rfl HI.out ?_) | (refine wpList_store_row rfl 110 _ _ rfl (w.heap.size + 1) _ rfl rfl _ _ hR HI.out HO.out (nums_one _ _) ?_))
          refine bodyPost_ret (results_cell_row rfl _ _ (w.heap.size + 1) _ _ _ _ rfl (setRow_heap _ _ _ _ _ _ hR) Tryd.underlying110 rfl HI.out) rfl ⟨⟨a0, a1, a2, a3, a4, a5, a6, a7⟩, by rw [hS.out], by rw [HS0.out, HH0.out], below_setRow hb (by omega) _⟩
end Go.Proofs.YtdncmmipopdhbaaDoor.Sha
end
