/-
  Parts of the walks and of the plain laws below the statement (One). Texts named F.. are what the kit's print writes for one function each, through a program of mine that hands it contracts of the functions that it does not take.
-/
import Derived.Test.YtdncmmipopdhbaaDoorCk1
import Derived.Deep.DeepCutAuto
import Derived.Deep.CutBlock
section
/-
  Walk: digest.one, SHA-1's mixing of one block.
-/
set_option linter.unusedVariables false
set_option linter.unusedSimpArgs false
namespace Go.Proofs.YtdncmmipopdhbaaDoor.Sha
open Go.RowKit Go.Proofs.YtdncmmipopdhbaaDoor.K
/-! ### SHA-1's mixing -/
structure R5 where
  (a b c d e : BitVec 32)
def s1w (w : List (BitVec 32)) (t : Nat) : List (BitVec 32) :=
  if 16 ≤ t then w.set (t % 16) ((w[(t + 13) % 16]?.getD 0#32 ^^^ w[(t + 8) % 16]?.getD 0#32 ^^^ w[(t + 2) % 16]?.getD 0#32 ^^^ w[t % 16]?.getD 0#32).rotateLeft 1) else w
def s1f (t : Nat) (b c d : BitVec 32) : BitVec 32 :=
  if t / 20 = 0 then d ^^^ b &&& (c ^^^ d) else if t / 20 = 2 then b &&& c ||| d &&& (b ||| c) else b ^^^ c ^^^ d
def s1k (t : Nat) : BitVec 32 :=
  if t / 20 = 0 then 1518500249#32 else if t / 20 = 1 then 1859775393#32 else if t / 20 = 2 then 2400959708#32 else 3395469782#32
def s1s (r : R5) (x : BitVec 32) (t : Nat) : R5 :=
  ⟨r.a.rotateLeft 5 + s1f t r.b r.c r.d + r.e + s1k t + x, r.a, r.b.rotateLeft 30, r.c, r.d⟩
/-- The ring of words and the registers, after t rounds. -/
def s1To (w0 : List (BitVec 32)) (r0 : R5) : Nat → List (BitVec 32) × R5
  | 0 => (w0, r0)
  | t + 1 => let p := s1To w0 r0 t; (s1w p.1 t, s1s p.2 ((s1w p.1 t)[t % 16]?.getD 0#32) t)
theorem s1w_length (w : List (BitVec 32)) (t : Nat) : (s1w w t).length = w.length := by unfold s1w; split <;> simp
theorem s1To_length (w0 : List (BitVec 32)) (r0 : R5) (t : Nat) : (s1To w0 r0 t).1.length = w0.length := by
  induction t with
  | zero => rfl
  | succ t ih => simp only [s1To, s1w_length, ih]
theorem info_w8 : (Tryd.prog.info? 110).map (·.size) = some 8 := by kernel_rfl
theorem s1w_get (w : List (BitVec 32)) (t : Nat) (h : ¬ 16 ≤ t) : s1w w t = w := if_neg h

theorem k1_0 : Value.int .u32 1518500249 = .int .u32 (iw 1518500249#32) := congrArg (Value.int .u32) (by simp [iw])
theorem k1_1 : Value.int .u32 1859775393 = .int .u32 (iw 1859775393#32) := congrArg (Value.int .u32) (by simp [iw])
theorem k1_2 : Value.int .u32 2400959708 = .int .u32 (iw 2400959708#32) := congrArg (Value.int .u32) (by simp [iw])
theorem k1_3 : Value.int .u32 3395469782 = .int .u32 (iw 3395469782#32) := congrArg (Value.int .u32) (by simp [iw])
attribute [local go_sem] iw_or32 iw_xor32 iw_and32 iw_add32 iw_add32w k1_0 k1_1 k1_2 k1_3
theorem s1_step {w0 xs xs' : List (BitVec 32)} {r0 r : R5} {n : Nat} {F K v : BitVec 32} (hS : s1To w0 r0 n = (xs, r)) (hf : s1f n r.b r.c r.d = F) (hk : s1k n = K) (hx : s1w xs n = xs') (hv : xs'[n % 16]?.getD 0#32 = v) :
    s1To w0 r0 (n + 1) = (xs', ⟨r.a.rotateLeft 5 + F + r.e + K + v, r.a, r.b.rotateLeft 30, r.c, r.d⟩) := by
  subst hf hk hx hv
  simp only [s1To, hS, s1s]
theorem getD_set_same (xs : List (BitVec 32)) (i : Nat) (v : BitVec 32) (h : i < xs.length) : (xs.set i v)[i]?.getD 0#32 = v := by simp [h]
set_option maxHeartbeats 4000000 in
set_option maxRecDepth 100000 in
theorem one_calls (h0 h1 h2 h3 h4 h5 h6 h7 : BitVec 32) (A : Option Addr) (c : Nat) (l : List Int) (w : World) (hr : Rd w .u8 A l) (hl : 64 ≤ l.length) :
    Calls Tryd.prog 110 #[.agg #[.int .u32 (iw h0), .int .u32 (iw h1), .int .u32 (iw h2), .int .u32 (iw h3), .int .u32 (iw h4), .int .u32 (iw h5), .int .u32 (iw h6), .int .u32 (iw h7)], .slice A l.length c] w fun e w' => ∃ r, (s1To (wordsB l) ⟨h0, h1, h2, h3, h4⟩ 80).2 = r ∧
      e = .returned (.agg #[.int .u32 (iw (h0 + r.a)), .int .u32 (iw (h1 + r.b)), .int .u32 (iw (h2 + r.c)), .int .u32 (iw (h3 + r.d)), .int .u32 (iw (h4 + r.e)), .int .u32 0, .int .u32 0, .int .u32 0]) ∧ Below w.heap.size w w' := by
  go_enter Tryd.func110, Tryd.ntmps110
  go_wp2_with fail
  refine (words_calls A c l _ (by exact (hr.alloc _).alloc _) hl).mono ?_
  rintro e w1 ⟨rfl, hb1⟩
  rw [wordsTo_B]
  have hH : w1.heap[w.heap.size]? = some (.cells #[.int .u32 (iw h0), .int .u32 (iw h1), .int .u32 (iw h2), .int .u32 (iw h3), .int .u32 (iw h4), .int .u32 (iw h5), .int .u32 (iw h6), .int .u32 (iw h7)] 110 (0, 0)) := blk_below (blk_alloc (heap_alloc_new w _) _) hb1 (by simp; omega)
  have hR : w1.heap[w.heap.size + 1]? = some (.cells #[.int .u32 0, .int .u32 0, .int .u32 0, .int .u32 0, .int .u32 0, .int .u32 0, .int .u32 0, .int .u32 0] 110 (0, 0)) := blk_below (by have := heap_alloc_new (w.alloc (.cells #[.int .u32 (iw h0), .int .u32 (iw h1), .int .u32 (iw h2), .int .u32 (iw h3), .int .u32 (iw h4), .int .u32 (iw h5), .int .u32 (iw h6), .int .u32 (iw h7)] 110)) (.cells #[.int .u32 0, .int .u32 0, .int .u32 0, .int .u32 0, .int .u32 0, .int .u32 0, .int .u32 0, .int .u32 0] 110); simpa using this) hb1 (by simp)
  have hz : w.heap.size + 1 < w1.heap.size := by have := hb1.size; simp at this; omega
  have hb : Below w.heap.size w w1 := below_then (below_alloc (below_alloc (Below.refl _ _) _) _) hb1 (by simp)
  have hi16 : (Tryd.prog.info? 155).map (·.size) = some (nums .u32 (iws (wordsB l))).toArray.size := by rw [nums_size, iws_length, wordsB_length]; exact info_w16
  have h16 : #[Value.int .u32 0, Value.int .u32 0, Value.int .u32 0, Value.int .u32 0, Value.int .u32 0, Value.int .u32 0, Value.int .u32 0, Value.int .u32 0, Value.int .u32 0, Value.int .u32 0, Value.int .u32 0, Value.int .u32 0, Value.int .u32 0, Value.int .u32 0, Value.int .u32 0, Value.int .u32 0].size = (nums .u32 (iws (wordsB l))).toArray.size := by rw [nums_size, iws_length, wordsB_length]; rfl
  have HI := Lib.hid hi16
  have H16 := Lib.hid h16
  clear hi16 h16 hb1
  go_wp2_with (refine wpList_store_new rfl 155 _ _ rfl _ rfl rfl _ _ HI.out H16.out (nums_one _ _) ?_)
  have hH1 := blk_alloc hH (.cells (nums .u32 (iws (wordsB l))).toArray 155)
  have hR1 := blk_alloc hR (.cells (nums .u32 (iws (wordsB l))).toArray 155)
  have hW1 := Arr.new w1 .u32 155 (iws (wordsB l))
  have hb2 := below_alloc hb (.cells (nums .u32 (iws (wordsB l))).toArray 155)
  generalize hw2 : w1.alloc (.cells (nums .u32 (iws (wordsB l))).toArray 155) = w2 at *
  clear hw2 hH hR HI H16
  have c0 := blk_cell hH1 0
  have c1 := blk_cell hH1 1
  have c2 := blk_cell hH1 2
  have c3 := blk_cell hH1 3
  have c4 := blk_cell hH1 4
  simp only [List.getElem?_toArray, List.getElem?_cons_zero, List.getElem?_cons_succ] at c0 c1 c2 c3 c4
  refine reg_still mixed (by as_aux_lemma => kernel_rfl) ?_
  repeat (refine wpStill_step (fun K hK => ?_); go_simp; (try simp (disch := omega) only [wi64, wu32, wu8, wu64, tmn, tdn]); (try (rw [if_pos (by omega)]; go_simp)); refine hK _ ?_; clear hK K)
  refine wpStill_nil ?_
  clear c0 c1 c2 c3 c4
  go_wp2
  generalize hB : w1.heap.size = B at *
  have HB := Lib.hid hB
  clear hB
  go_loopw [6, 7, 8, 9, 10, 27] (fun a b c d e i wr => ∃ n : Nat, n ≤ 80 ∧ i = .int .i64 n ∧ ∃ (xs : List (BitVec 32)) (ra rb rc rd re : BitVec 32), a = .int .u32 (iw ra) ∧ b = .int .u32 (iw rb) ∧ c = .int .u32 (iw rc) ∧ d = .int .u32 (iw rd) ∧ e = .int .u32 (iw re) ∧ Hid (s1To (wordsB l) ⟨h0, h1, h2, h3, h4⟩ n = (xs, ⟨ra, rb, rc, rd, re⟩)) ∧
    Arr wr B .u32 155 (iws xs) ∧ wr.heap[w.heap.size]? = some (.cells #[.int .u32 (iw h0), .int .u32 (iw h1), .int .u32 (iw h2), .int .u32 (iw h3), .int .u32 (iw h4), .int .u32 (iw h5), .int .u32 (iw h6), .int .u32 (iw h7)] 110 (0, 0)) ∧ wr.heap[w.heap.size + 1]? = some (.cells #[.int .u32 0, .int .u32 0, .int .u32 0, .int .u32 0, .int .u32 0, .int .u32 0, .int .u32 0, .int .u32 0] 110 (0, 0)) ∧ Below w.heap.size w wr) (fun _ _ _ _ _ i _ => 80 - (intOf i).toNat)
  case atStart => exact ⟨0, by omega, rfl, wordsB l, _, _, _, _, _, rfl, rfl, rfl, rfl, rfl, Lib.hid rfl, hW1.drew, hH1, hR1, hb2.drew⟩
  case round =>
    clear hW1 hH1 hR1 hb2
    obtain ⟨n, hn, rfl, xs, ra, rb, rc, rd, re, rfl, rfl, rfl, rfl, rfl, hS, hX, hH, hR, hb⟩ := hrel
    have hlen : xs.length = 16 := by have := s1To_length (wordsB l) ⟨h0, h1, h2, h3, h4⟩ n; rw [hS.out] at this; rw [this, wordsB_length]
    have HL := Lib.hid hlen
    have hr5 : bits .and .u64 (IntKind.u64.wrap 5) 31 = ((5 : Nat) : Int) := by decide +kernel
    have hr30 : bits .and .u64 (IntKind.u64.wrap 30) 31 = ((30 : Nat) : Int) := by decide +kernel
    have hr1 : bits .and .u64 (IntKind.u64.wrap 1) 31 = ((1 : Nat) : Int) := by decide +kernel
    have R5 := Lib.hid hr5
    have R30 := Lib.hid hr30
    have R1 := Lib.hid hr1
    clear hlen hr5 hr30 hr1
    by_cases hlt : n < 80
    · go_upto_if 33 with (fail)
      go_cut [] (fun wc => ∃ ys : List (BitVec 32), Hid (s1w xs n = ys) ∧ Arr wc B .u32 155 (iws ys) ∧ wc.heap[w.heap.size]? = some (.cells #[.int .u32 (iw h0), .int .u32 (iw h1), .int .u32 (iw h2), .int .u32 (iw h3), .int .u32 (iw h4), .int .u32 (iw h5), .int .u32 (iw h6), .int .u32 (iw h7)] 110 (0, 0)) ∧ wc.heap[w.heap.size + 1]? = some (.cells #[.int .u32 0, .int .u32 0, .int .u32 0, .int .u32 0, .int .u32 0, .int .u32 0, .int .u32 0, .int .u32 0] 110 (0, 0)) ∧ Below w.heap.size w wc)
      case first =>
        by_cases h16 : n < 16
        · have e := Lib.hid (s1w_get xs n (by omega))
          go_wp2
          go_meet
          exact ⟨xs, e, hX, hH, hR, hb⟩
        · have c0 := hX.cellW ((n : Int) % 16) (n % 16) (by omega) (by rw [HL.out]; omega)
          have c13 := hX.cellW (((n : Int) + 13) % 16) ((n + 13) % 16) (by omega) (by rw [HL.out]; omega)
          have c8 := hX.cellW (((n : Int) + 8) % 16) ((n + 8) % 16) (by omega) (by rw [HL.out]; omega)
          have c2 := hX.cellW (((n : Int) + 2) % 16) ((n + 2) % 16) (by omega) (by rw [HL.out]; omega)
          have f0 := hX.free (((n : Int) % 16).toNat)
          have e16 : (n : Int) % 16 = ((n % 16 : Nat) : Int) := by omega
          have ex : s1w xs n = _ := if_pos (by omega)
          have EX := Lib.hid ex
          clear ex e16
          go_wp2
          refine reg_tail 24 mixed (by as_aux_lemma => kernel_rfl) ?_
          simp only [List.take_succ_cons, List.take_zero, List.drop_succ_cons, List.drop_zero]
          repeat (first | (refine wpStill_step (fun K hK => ?_); go_simp; (try simp (disch := omega) only [wi64, wu32, wu8, wu64, tmn, tdn]); (try (rw [if_pos (by omega)]; go_simp)); refine hK _ ?_; clear hK K) | (refine wpStill_step (fun K hK => ?_); go_simp; (with_reducible refine ⟨_, (rotl32_calls _ _ _ (by with_reducible first | exact R5.out | exact R30.out | exact R1.out) (by omega) (by omega) _).mono (fun _ _ h_ => ⟨h_.1, h_.2.symm⟩), hK _ ?_⟩); clear hK K))
          refine wpStill_nil ?_
          go_wp2
          go_meet
          exact ⟨_, EX, iws_set xs _ _ ▸ hX.drew.set _ _, blk_other hH (by simp; omega) _, blk_other hR (by simp; omega) _, hb.drew.setCell (by simp; omega) _⟩
      case rest =>
        obtain ⟨ys, HY, hX, hH, hR, hb⟩ := hcut
        have hlen : ys.length = 16 := by rw [← HY.out, s1w_length]; exact HL.out
        have HL' := Lib.hid hlen
        clear hlen HL
        go_upto_block 2 with (fail)
        go_cut [13, 14] (fun f k wx => ∃ F K : BitVec 32, f = .int .u32 (iw F) ∧ k = .int .u32 (iw K) ∧ Hid (s1f n rb rc rd = F) ∧ Hid (s1k n = K) ∧ wx = wc)
        case first =>
          obtain hq | hq | hq | hq : n / 20 = 0 ∨ n / 20 = 1 ∨ n / 20 = 2 ∨ n / 20 = 3 := by omega
          · have ef : s1f n rb rc rd = _ := if_pos hq
            have ek : s1k n = _ := if_pos hq
            have EF := Lib.hid ef
            have EK := Lib.hid ek
            have q0 : (((n : Int) / 20) == 0) = true := beq_iff_eq.2 (by omega)
            clear ef ek hq
            go_wp2
            go_meet
            exact ⟨_, _, rfl, rfl, EF, EK, rfl⟩
          · have ef : s1f n rb rc rd = rb ^^^ rc ^^^ rd := by simp [s1f, hq]
            have ek : s1k n = 1859775393#32 := by simp [s1k, hq]
            have EF := Lib.hid ef
            have EK := Lib.hid ek
            have q0 : (((n : Int) / 20) == 0) = false := beq_eq_false_iff_ne.2 (by omega)
            have q1 : (((n : Int) / 20) == 1) = true := beq_iff_eq.2 (by omega)
            clear ef ek hq
            go_wp2
            go_meet
            exact ⟨_, _, rfl, rfl, EF, EK, rfl⟩
          · have ef : s1f n rb rc rd = rb &&& rc ||| rd &&& (rb ||| rc) := by simp [s1f, hq]
            have ek : s1k n = 2400959708#32 := by simp [s1k, hq]
            have EF := Lib.hid ef
            have EK := Lib.hid ek
            have q0 : (((n : Int) / 20) == 0) = false := beq_eq_false_iff_ne.2 (by omega)
            have q1 : (((n : Int) / 20) == 1) = false := beq_eq_false_iff_ne.2 (by omega)
            have q2 : (((n : Int) / 20) == 2) = true := beq_iff_eq.2 (by omega)
            clear ef ek hq
            go_wp2
            go_meet
            exact ⟨_, _, rfl, rfl, EF, EK, rfl⟩
          · have ef : s1f n rb rc rd = rb ^^^ rc ^^^ rd := by simp [s1f, hq]
            have ek : s1k n = 3395469782#32 := by simp [s1k, hq]
            have EF := Lib.hid ef
            have EK := Lib.hid ek
            have q0 : (((n : Int) / 20) == 0) = false := beq_eq_false_iff_ne.2 (by omega)
            have q1 : (((n : Int) / 20) == 1) = false := beq_eq_false_iff_ne.2 (by omega)
            have q2 : (((n : Int) / 20) == 2) = false := beq_eq_false_iff_ne.2 (by omega)
            clear ef ek hq
            go_wp2
            go_meet
            exact ⟨_, _, rfl, rfl, EF, EK, rfl⟩
        case rest =>
          obtain ⟨F, K, rfl, rfl, HF, HK, rfl⟩ := hcut
          have c0 := hX.cellW ((n : Int) % 16) (n % 16) (by omega) (by rw [HL'.out]; omega)
          have T := s1_step hS.out HF.out HK.out HY.out rfl
          have HT := Lib.hid T
          clear T
          go_wp2
          refine reg_still mixed (by as_aux_lemma => kernel_rfl) ?_
          repeat (first | (refine wpStill_step (fun K hK => ?_); go_simp; (try simp (disch := omega) only [wi64, wu32, wu8, wu64, tmn, tdn]); (try (rw [if_pos (by omega)]; go_simp)); refine hK _ ?_; clear hK K) | (refine wpStill_step (fun K hK => ?_); go_simp; (with_reducible refine ⟨_, (rotl32_calls _ _ _ (by with_reducible first | exact R5.out | exact R30.out | exact R1.out) (by omega) (by omega) _).mono (fun _ _ h_ => ⟨h_.1, h_.2.symm⟩), hK _ ?_⟩); clear hK K))
          refine wpStill_nil ?_
          go_wp2
          go_roundw
          case rel => exact ⟨n + 1, by omega, by go_num, _, _, _, _, _, _, rfl, rfl, rfl, rfl, rfl, HT, hX.drew, hH, hR, hb.drew⟩
          case measure => simp [intOf]; omega
    · obtain rfl : n = 80 := by omega
      have c0 := blk_cell hH 0
      have c1 := blk_cell hH 1
      have c2 := blk_cell hH 2
      have c3 := blk_cell hH 3
      have c4 := blk_cell hH 4
      simp only [List.getElem?_toArray, List.getElem?_cons_zero, List.getElem?_cons_succ] at c0 c1 c2 c3 c4
      go_wp2_with (refine wpList_store_row rfl 110 _ _ rfl (w.heap.size + 1) #[.int .u32 (iw (h0 + ra)), .int .u32 (iw (h1 + rb)), .int .u32 (iw (h2 + rc)), .int .u32 (iw (h3 + rd)), .int .u32 (iw (h4 + re)), .int .u32 0, .int .u32 0, .int .u32 0] rfl rfl _ _ hR info_w8 rfl (by simp [Value.oneCell']) ?_)
      refine bodyPost_ret (results_cell_row rfl _ _ (w.heap.size + 1) _ #[.int .u32 (iw (h0 + ra)), .int .u32 (iw (h1 + rb)), .int .u32 (iw (h2 + rc)), .int .u32 (iw (h3 + rd)), .int .u32 (iw (h4 + re)), .int .u32 0, .int .u32 0, .int .u32 0] _ _ rfl (setRow_heap wr _ _ _ _ _ hR) Tryd.underlying110 rfl (by exact info_w8)) rfl ⟨⟨ra, rb, rc, rd, re⟩, by rw [hS.out], rfl, below_setRow hb (by omega) _⟩
end Go.Proofs.YtdncmmipopdhbaaDoor.Sha
end
