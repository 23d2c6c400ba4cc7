/-
  Parts of the walks and of the plain laws below the statement (XDig, XRange, XMask, XArcs, Fderseven, XPutOid, Frsaoid). Texts named F.. are what the kit's print writes for one function each, through a program of mine that hands it contracts of the functions that it does not take.
-/
import Derived.Test.YtdncmmipopdhbaaDoorCk11
import Derived.RangeFuncNested
import Derived.RangeFuncBound
import Derived.RangeFuncCalls
import Derived.RangeFuncLeaves
import Derived.RangeFuncBox
import Derived.Shelf.Abstract
import Derived.WalkKit
import Derived.OwnWalkIn
import Derived.TacticsInMore
import Derived.LoopNIn
import Derived.LoopIn
import Derived.Test.YtdncmmipopdhbaaDoorCk9
import Derived.Lib.OthersKept
import Derived.WalkSmall
import Derived.Outline
import Derived.Test.YtdncmmipopdhbaaDoorCk1
section
/-
  How many bytes a digest has.
-/
set_option linter.unusedVariables false
namespace Go.Proofs.YtdncmmipopdhbaaDoor.P
open Go.RowKit

theorem len_flat {α : Type} (l : List α) (f : α → List (BitVec 8)) (c : Nat) (hf : ∀ x, (f x).length = c) : (l.flatMap f).length = l.length * c := by
  induction l with
  | nil => simp
  | cons x l ih => rw [List.flatMap_cons, List.length_append, ih, hf, List.length_cons, Nat.succ_mul]; omega
theorem mixB_len (alg : Int) (s : Sha.St) (bs : List (BitVec 8)) (h1 : s.ws.length = 8) (h2 : s.vs.length = 8) : (Sha.mixB alg s bs).ws.length = 8 ∧ (Sha.mixB alg s bs).vs.length = 8 := by
  unfold Sha.mixB
  split
  · exact ⟨rfl, h2⟩
  · split
    · refine ⟨?_, h2⟩
      unfold Sha.mix2
      simp [Sha.s2add_length]
    · refine ⟨h1, ?_⟩
      unfold Sha.mix5
      simp [Sha.s5add_length]
theorem absN_len (alg : Int) (s : Sha.St) (m : Sha.Bytes) (h1 : s.ws.length = 8) (h2 : s.vs.length = 8) : ∀ k, (Sha.absN alg s m k).ws.length = 8 ∧ (Sha.absN alg s m k).vs.length = 8
  | 0 => ⟨h1, h2⟩
  | k + 1 => by
    obtain ⟨h3, h4⟩ := absN_len alg s m h1 h2 k
    exact mixB_len alg _ _ h3 h4
theorem st0_len (alg : Int) : (Sha.st0 alg).ws.length = 8 ∧ (Sha.st0 alg).vs.length = 8 := by
  unfold Sha.st0
  repeat' (split <;> try exact ⟨rfl, rfl⟩)
theorem hash_len (alg : Int) (m : Sha.Bytes) : (Sha.hashOf alg m).length = (Sha.sizeN alg).toNat := by
  unfold Sha.hashOf
  have hs := absN_len alg (Sha.st0 alg) m (st0_len alg).1 (st0_len alg).2 (Sha.nblk alg m)
  have h := absN_len alg (Sha.state alg m) (Sha.rest alg m ++ Sha.fillB alg m) hs.1 hs.2 ((Sha.rest alg m ++ Sha.fillB alg m).length / Sha.blkN alg)
  generalize Sha.absN alg (Sha.state alg m) (Sha.rest alg m ++ Sha.fillB alg m) ((Sha.rest alg m ++ Sha.fillB alg m).length / Sha.blkN alg) = s at *
  have hb : (Sha.sizeN alg).toNat ≤ (Sha.outB alg s).length := by
    unfold Sha.outB
    split
    · rename_i hb
      rw [len_flat _ _ 4 (fun x => by simp), h.1]
      unfold Sha.blkN at hb
      unfold Sha.sizeN
      repeat' (split <;> try omega)
      all_goals (exfalso; split at hb <;> omega)
    · rw [len_flat _ _ 8 (fun x => by simp), h.2]
      unfold Sha.sizeN
      repeat' (split <;> try omega)
  rw [List.length_take]
  omega
theorem dig_len (alg : Int) (l : List Int) : (dig alg l).length = (Sha.sizeN alg).toNat := by
  unfold dig
  rw [K.iws_length, hash_len]
theorem dig_u8 (alg : Int) (l : List Int) : u8ok (dig alg l) = true := by
  unfold dig u8ok K.iws
  rw [List.all_eq_true]
  intro x hx
  obtain ⟨b, _, rfl⟩ := List.mem_map.1 hx
  have := b.isLt
  unfold K.iw
  simp
  omega
end Go.Proofs.YtdncmmipopdhbaaDoor.P
end

section
/-
  A range over a function whose rounds are handed rows: the body is told what the handed value's memory holds (M), and the loop ends by the body's own leaving. Over the library's wpIn_rangeFunc and its rules for the loop's record.
-/
set_option linter.unusedVariables false
namespace Go.Proofs.YtdncmmipopdhbaaDoor.P
open Go Go.Proofs Go.RowKit
variable {F : Fence} {n : Nat} {P : Program}

/-- What is asked of the function that is ranged over: round by round it hands a value of which M holds; it ends where a round has said no. -/
def Rounds (F : Fence) (n : Nat) (P : Program) (gf : Nat) (lb : Array Value) (M : Nat → Value → World → Prop) (N : Nat) (T : World → Prop) : Prop :=
  ∀ (l : Nat) (J Jx : Nat → World → Prop) (W : World), AbidesFrom W.heap.size J → AbidesFrom W.heap.size Jx → (∀ k W1, J k W1 → k < N ∧ T W1 ∧ W.heap.size ≤ W1.heap.size) →
    (∀ k x W1, J k W1 → M k x W1 → YieldAt F (n - 1) P l #[x] W1 fun e W' => (e = .returned (.bool true) ∧ J (k + 1) W') ∨ (e = .returned (.bool false) ∧ Jx (k + 1) W')) →
    J 0 W → CallsIn F n P gf (#[.func (.yield l) #[] #[]] ++ lb) W fun e W' => (∃ v, e = .returned v) ∧ ∃ k, Jx k W'
/-- How a round's body may end. -/
def roundEnd (B : Nat) (I Ix : Nat → World → Prop) (id k : Nat) (W : World) : Exit → Act → World → Prop
  | .normal, _, W' => KeepsFrom B W W' ∧ I (k + 1) W'
  | .exit i, _, W' => i = id ∧ KeepsFrom B W W' ∧ Ix (k + 1) W'
  | _, _, _ => False
theorem range_rows {g : Operand} {ps : Array Tmp} {assign body : Code} {Q : Exit → Act → World → Prop} {a : Act} {w : World}
    (hro : F.round = none) (h1 : 1 ≤ n) {gf : Nat} {lb : Array Value} (hg : a.eval g = .func (.func gf) #[] lb) (hFg : F.fn gf) (eg : ∀ args w, (callFunc gf args).run P w = .ok (.enter gf args) w)
    (M : Nat → Value → World → Prop) (N : Nat) (T : World → Prop) (I Ix : Nat → World → Prop) (id : Nat) (hseq : Rounds F (n - 1) P gf lb M N T) (hps : ps.size = 1)
    (hI : OwnFrom w.heap.size I) (hIx : OwnFrom w.heap.size Ix) (hM : OwnFrom w.heap.size (fun (s : Nat × Value) W => M s.1 s.2 W)) (h0 : I 0 w) (hN : ∀ k W, I k W → k < N ∧ T W) (a₁ : Value → Act)
    (hassign : ∀ (l : Nat) (x : Value) (W : World) (K : Act → World → Prop), K (a₁ x) W →
      assign.wpIn (F.inRound l) (n - 1 - 1) P (Exit.then K (fun _ _ _ => False)) { tmps := (ps.zip #[x]).foldl (fun t (p, v) => t.setIfInBounds p v) a.tmps, defers := [] } W)
    (hbody : ∀ (l : Nat) (k : Nat) (x : Value) (W : World), I k W → M k x W → body.wpIn (F.inRound l) (n - 1 - 1) P (roundEnd w.heap.size I Ix id k W) (a₁ x) W)
    (hstop : ∀ (D : Nat) (k : Nat) (W : World), w.heap.size ≤ D → Ix k W → W.heap[D]? = some (.deferred (some [])) → (Code.exit id).wpIn F n P Q { a with defers := { target := .collected D, args := #[] } :: a.defers } W) :
    (Code.rangeFunc g ps assign body).wpIn F n P Q a w := by
  refine wpIn_rangeFunc fun fn hfn => ?_
  rw [hro]
  obtain ⟨L, hL⟩ : ∃ L : LoopState → Option Code → Loop, L = fun st pe => { state := st, pending := pe, fn, tmps := a.tmps, params := ps, assign, body, defers := w.heap.size } := ⟨_, rfl⟩
  have hs1 : (w.alloc (.deferred (some []))).heap.size = w.heap.size + 1 := by simp
  obtain ⟨W1, hW1⟩ : ∃ W1, W1 = (w.alloc (.deferred (some []))).alloc (.loop (L .ready none)) := ⟨_, rfl⟩
  have hs2 : W1.heap.size = w.heap.size + 2 := by rw [hW1]; simp
  have hl1 : W1.heap[w.heap.size + 1]? = some (.loop (L .ready none)) := by
    have h := World.alloc_heap_new (w.alloc (.deferred (some []))) (.loop (L .ready none))
    rw [hs1] at h
    rw [hW1]; exact h
  have hk1 : W1.heap[w.heap.size]? = some (.deferred (some [])) := by
    rw [hW1]
    exact (Below.heap_alloc _ _ _ (by omega)).trans (World.alloc_heap_new w _)
  have hi1 : I 0 W1 := by rw [hW1]; exact hI.alloc _ (hI.alloc _ h0)
  have turn : ∀ {A B : World} {row : Option Nat}, (∀ r, row = some r → W1.heap.size ≤ r ∧ ∃ o : Obj, A.heap[r]? = some o ∧ o.isWalk = true) → (∀ r, row = some r → w.heap.size ≤ r ∧ ∃ o : Obj, A.heap[r]? = some o ∧ o.isCells = false) := fun h r e => by
    obtain ⟨h1, o, h2, h3⟩ := h r e
    exact ⟨by omega, o, h2, Obj.not_cells_of_walk h3⟩
  refine ⟨w.heap.size + 1, [{ target := .collected w.heap.size, args := #[] }], W1, { target := .fn (.func gf) lb, args := #[.func (.yield (w.heap.size + 1)) #[] #[]] }, W1, gf, #[.func (.yield (w.heap.size + 1)) #[] #[]] ++ lb, W1, ?enter, ?resolved, ?leads, ?invoked, fun _ => h1, ?run⟩
  case enter => rw [hW1, hL]; exact run_enterLoop_outer _ _ _ _ _
  case resolved => simp only [resolve, hg]; simp [go_sem]
  case leads => intro f' hf'; simp [Target.leads] at hf'; rw [← hf']; exact hFg
  case invoked => simp [invoke, go_sem, eg]
  case run =>
    refine (hseq (w.heap.size + 1) (fun k W => I k W ∧ W.heap[w.heap.size + 1]? = some (.loop (L .ready none)) ∧ W.heap[w.heap.size]? = some (.deferred (some [])))
      (fun k W => Ix k W ∧ W.heap[w.heap.size + 1]? = some (.loop (L .done (some (.exit id)))) ∧ W.heap[w.heap.size]? = some (.deferred (some []))) W1 ?abides ?abidesx ?knows ?round ⟨hi1, hl1, hk1⟩).mono ?behind
    case abides =>
      intro k A B row ⟨h1, h2, h3⟩ hg hr
      exact ⟨hI k A B row h1 hg (turn (B := B) hr), (grownBy_keeps hg (fun r e => (hr r e).2) h2 rfl).trans h2, (grownBy_keeps hg (fun r e => (hr r e).2) h3 rfl).trans h3⟩
    case abidesx =>
      intro k A B row ⟨h1, h2, h3⟩ hg hr
      exact ⟨hIx k A B row h1 hg (turn (B := B) hr), (grownBy_keeps hg (fun r e => (hr r e).2) h2 rfl).trans h2, (grownBy_keeps hg (fun r e => (hr r e).2) h3 rfl).trans h3⟩
    case knows =>
      intro k W ⟨h, h2, _⟩
      exact ⟨(hN k W h).1, (hN k W h).2, by have := (Array.getElem?_eq_some_iff.1 h2).1; omega⟩
    case round =>
      intro k x W ⟨hi, hl, hk⟩ hm
      have hlt := (Array.getElem?_eq_some_iff.1 hl).1
      have hy := run_yield (P := P) (args := #[x]) hl (by rw [hL]; simpa using hps.symm)
      rw [hL] at hy
      refine ⟨fn, _, assign, body, hy, roundIn_of_wpIn hfn (hassign _ x W _ ?_)⟩
      clear hy
      refine ⟨_, run_beginRound hl (by rw [hL]), ?_⟩
      obtain ⟨W2, hW2⟩ : ∃ W2, W2 = W.putObj (w.heap.size + 1) (.loop { L .ready none with state := .busy }) := ⟨_, rfl⟩
      have hl2 : W2.heap[w.heap.size + 1]? = some (.loop { L .ready none with state := .busy }) := by rw [hW2]; exact World.putObj_heap_same hlt
      have hk2 : W2.heap[w.heap.size]? = some (.deferred (some [])) := by rw [hW2]; exact (World.putObj_heap_other (by omega)).trans hk
      have hi2 : I k W2 := by rw [hW2]; exact hI.putObj _ hi (by omega) hl rfl
      have hm2 : M k x W2 := by rw [hW2]; exact hM.putObj (s := (k, x)) _ hm (by omega) hl rfl
      rw [← hW2]
      refine wpIn_mono (hbody _ k x W2 hi2 hm2) ?_
      rintro e a3 W3 hp
      have done : ∀ (j : Option Code), KeepsFrom w.heap.size W2 W3 → ∃ W4, (Instr.endRound (w.heap.size + 1) j).run P W3 = .ok (.bool j.isNone) W4 ∧ W4 = W3.putObj (w.heap.size + 1) (.loop (L (if j.isNone then .ready else .done) j)) ∧ W3.heap[w.heap.size + 1]? = some (.loop { L .ready none with state := .busy }) ∧ W4.heap[w.heap.size + 1]? = some (.loop (L (if j.isNone then .ready else .done) j)) ∧ W4.heap[w.heap.size]? = some (.deferred (some [])) := fun j hkf => by
        have h3 := hkf.same _ _ (by omega) hl2 rfl
        have hr := run_endRound (P := P) j h3
        rw [hL] at hr ⊢
        exact ⟨_, hr, rfl, by rw [hL] at h3; exact h3, World.putObj_heap_same (Array.getElem?_eq_some_iff.1 h3).1, (World.putObj_heap_other (by omega)).trans (hkf.same _ _ (Nat.le_refl _) hk2 rfl)⟩
      cases e with
      | normal =>
        obtain ⟨hkf, hi3⟩ := hp
        obtain ⟨W4, hr, h4, h3l, h4l, h4k⟩ := done none hkf
        exact ⟨_, _, hr, .inl ⟨rfl, by rw [h4]; exact hI.putObj _ hi3 (by omega) h3l rfl, h4l, h4k⟩⟩
      | exit i =>
        obtain ⟨rfl, hkf, hi3⟩ := hp
        obtain ⟨W4, hr, h4, h3l, h4l, h4k⟩ := done (some (.exit i)) hkf
        exact ⟨_, _, hr, .inr ⟨rfl, by rw [h4]; exact hIx.putObj _ hi3 (by omega) h3l rfl, h4l, h4k⟩⟩
      | ret => exact hp.elim
      | goto t => exact hp.elim
      | panic ch => exact hp.elim
      | outgrown => exact hp.elim
    case behind =>
      rintro e W2 ⟨⟨v, rfl⟩, k, hx, hl, hk⟩
      have hr := run_endLoop (P := P) hl (by rw [hL]; simp)
      rw [hL] at hr
      exact ⟨some (.exit id), _, hr, hstop _ k _ (Nat.le_refl _) (hIx.putObj _ hx (by omega) hl rfl) ((World.putObj_heap_other (by omega)).trans hk)⟩
end Go.Proofs.YtdncmmipopdhbaaDoor.P
end

section
/-
  Walk: rsa.blocks, the function that it gives, rsa.Mask.
-/
set_option linter.unusedVariables false
set_option linter.unusedSimpArgs false
namespace Go.Proofs.YtdncmmipopdhbaaDoor.P
open Go.RowKit Go.Shelf Go.Proofs.YtdncmmipopdhbaaDoorW.PrintWords Go.Proofs.YtdncmmipopdhbaaDoorW.PrintLast Go.Proofs.YtdncmmipopdhbaaDoorW.PrintMore
attribute [local go_sem] Oper.semAt_some

/-- A digest that is handed on. -/
def Mk (alg : Int) (seed : List Int) (B k : Nat) (x : Value) (W : World) : Prop := ∃ A c, x = .slice A (dig alg (seed ++ be32 k)).length c ∧ (dig alg (seed ++ be32 k)).length ≤ c ∧ c ≤ 9223372036854775807 ∧ K.Rd W .u8 A (dig alg (seed ++ be32 k)) ∧ ∀ a, A = some a → B ≤ a.block ∧ a.block < W.heap.size
set_option maxRecDepth 100000 in
set_option maxHeartbeats 4000000 in
theorem blocks1_rounds (n : Nat) (hn : 1 ≤ n) (alg : Int) (seed : List Int) (ha : algOk alg = true) (hu : u8ok seed = true) (hl : seed.length ≤ 16777000) (b0 b1 : Nat) (A : Option Addr) (c : Nat) (hc : seed.length ≤ c) (w : World) (hr : K.Rd w .u8 A seed) (hA : ∀ a, A = some a → a.block < w.heap.size) (hK : Sha.KAt w) (N : Nat) (hN256 : N ≤ 256) :
    Rounds Fence.wide n Tryd.prog 50 #[.pointer (some ⟨b0, 0, none⟩), .pointer (some ⟨b1, 0, none⟩)] (Mk alg seed w.heap.size) N (fun W => (Boxed W b0 3 (.int .i64 alg) ∧ Boxed W b1 31 (.slice A seed.length c)) ∧ Below w.heap.size w W) := by
  intro l J Jx W hJ hJx hkn hY hj0
  refine callsIn_of_wp Tryd.func50 rfl trivial ?_ rfl
  simp only [Tryd.ntmps50, List.size_toArray, List.length_cons, List.length_nil, Nat.reduceAdd, Nat.reduceSub, Array.replicate_succ, Array.replicate_zero, List.push_toArray, List.append_toArray, List.nil_append, List.cons_append]
  gi_wp2
  gi_loopw [4] (fun s4 wr => ∃ i : Nat, s4 = .int .i64 i ∧ J i wr) (fun s4 _ => N - (intOf s4).toNat)
  case atStart => exact ⟨0, rfl, hj0⟩
  case round =>
    obtain ⟨i, rfl, hj⟩ := hrel
    obtain ⟨hiN, ⟨⟨hx0, hx1⟩, hbw⟩, hsz⟩ := hkn i wr hj
    have d0 := hx0.cell
    have d1 := hx1.cell
    gi_wp2_with fail
    have h4 : be32 (i : Int) = [(i : Int) / 16777216, (i : Int) / 65536, (i : Int) / 256, (i : Int)] := by
      unfold be32
      rw [show (i : Int) / 16777216 % 256 = (i : Int) / 16777216 by omega, show (i : Int) / 65536 % 256 = (i : Int) / 65536 by omega, show (i : Int) / 256 % 256 = (i : Int) / 256 by omega, show (i : Int) % 256 = (i : Int) by omega]
    obtain ⟨f4, hf4⟩ : ∃ f4, f4 = [(i : Int) / 16777216, (i : Int) / 65536, (i : Int) / 256, (i : Int)] := ⟨_, rfl⟩
    have hf4l : f4.length = 4 := by rw [hf4]; rfl
    have hf4u : u8ok f4 = true := by
      rw [hf4]
      unfold u8ok
      simp
      omega
    obtain ⟨W1, hW1⟩ : ∃ W1, W1 = wr.alloc (.cells #[.int .u8 ((i : Int) / 16777216), .int .u8 ((i : Int) / 65536), .int .u8 ((i : Int) / 256), .int .u8 (i : Int)] 5) := ⟨_, rfl⟩
    have hs1 : W1.heap.size = wr.heap.size + 1 := by rw [hW1]; simp
    have hb1 : Below wr.heap.size wr W1 := by rw [hW1]; exact (Below.refl _ _).alloc (Nat.le_refl _) _
    have hr4 : K.Rd W1 .u8 (some ⟨wr.heap.size, 0, none⟩) f4 := by rw [hW1, hf4]; exact K.rd_new4 _ _ _ _ _ _ _
    rw [← hW1]
    rw [hf4.symm] at h4
    clear hf4 hW1
    obtain ⟨W2, hW2⟩ : ∃ W2, W2 = W1.alloc (.cells #[.slice A seed.length c, .slice (some ⟨wr.heap.size, 0, none⟩) 4 4] 31) := ⟨_, rfl⟩
    have hh2 : W2.heap[wr.heap.size + 1]? = some (.cells #[.slice A seed.length c, .slice (some ⟨wr.heap.size, 0, none⟩) 4 4] 31 (0, 0)) := by rw [hW2, ← hs1]; exact World.alloc_heap_new W1 _
    have hb2 : Below W1.heap.size W1 W2 := by rw [hW2]; exact (Below.refl _ _).alloc (Nat.le_refl _) _
    have hb12 : Below wr.heap.size wr W2 := hb1.trans (hb2.mono hb1.size)
    have hr42 : K.Rd W2 .u8 (some ⟨wr.heap.size, 0, none⟩) f4 := hr4.below hb2
    have hrs : K.Rd W2 .u8 A seed := (hr.below (hbw.trans (hb12.mono hbw.size)))
    have hs2 : W2.heap.size = wr.heap.size + 2 := by rw [hW2]; simp; omega
    rw [← hW2]
    have hAs : ∀ a, A = some a → a.block < W2.heap.size := fun a ha => by have := hA a ha; have := hbw.size; omega
    have rows : RowsAt W2 W2.heap.size (some ⟨wr.heap.size + 1, 0, none⟩) [seed, f4] := by
      intro j hj
      match j, hj with
      | 0, _ => exact ⟨_, A, c, rfl, by show wr.heap.size + 1 < _; omega, by rw [K.add_plain, K.blk_cell hh2]; rfl, hc, hrs, hAs⟩
      | 1, _ => exact ⟨_, some ⟨wr.heap.size, 0, none⟩, 4, rfl, by show wr.heap.size + 1 < _; omega, by rw [K.add_plain, K.blk_cell hh2]; show _ = some (Value.slice _ f4.length 4); rw [hf4l]; rfl, by show f4.length ≤ 4; omega, hr42, fun a ha => by cases ha; show wr.heap.size < _; omega⟩
    have hf : digest_Sum.f alg [seed, f4] = some (dig alg (seed ++ be32 (i : Int)), 0) := by
      unfold digest_Sum.f
      rw [if_neg (by simp [ha]), if_pos ⟨by simp [hu, hf4u], by simp, by simp [hf4l]; omega⟩, h4]
      simp
    have hK2 : Sha.KAt W2 := hK.below (hbw.trans (hb12.mono hbw.size))
    clear hW2 hb1 hb2 hr4 hr42 hs1 hh2 hAs hrs
    have hsum := digest_Sum.calls alg (some ⟨wr.heap.size + 1, 0, none⟩) 2 [seed, f4] _ _ W2 rows hK2 hf
    refine ⟨trivial, (callsIn_wide.2 hsum).mono ?_⟩
    clear hsum rows
    rintro e w3 ⟨v3, rfl, hR3, hb3⟩
    have hO3 := R_own hR3
    obtain ⟨A3, c3, rfl, hle3, h633, hat3, hrd3⟩ := hO3.rd
    have hb4 := hb12.trans (hb3.mono hb12.size)
    have hj3 : J i w3 := hJ i wr w3 none hj (grown_of_below hb4 none) (fun r e => by cases e)
    have hm3 : Mk alg seed w.heap.size i (.slice A3 (dig alg (seed ++ be32 (i : Int))).length c3) w3 := ⟨A3, c3, rfl, hle3, h633, hrd3, fun a ha => ⟨by have := (hat3 a ha).1; have := hbw.size; omega, (hat3 a ha).2⟩⟩
    obtain ⟨fn, tmps, assign, body, hy, hR⟩ := hY i _ w3 hj3 hm3
    clear hR3 hO3 hrd3 hm3 hj3 hf
    generalize (dig alg (seed ++ be32 (i : Int))).length = q at *
    gi_wp2
    refine hR.mono ?_
    rintro e W5 (⟨rfl, hJ5⟩ | ⟨rfl, hJx5⟩)
    · gi_wp2
      go_roundw
      case rel => exact ⟨i + 1, by go_num, hJ5⟩
      case measure => simp [intOf]; omega
    · gi_wp2
      refine bodyPost_ret (results_none rfl _ _ _) rfl ?_
      exact ⟨⟨_, rfl⟩, _, hJx5⟩
set_option maxRecDepth 100000 in
set_option maxHeartbeats 4000000 in
theorem blocks_calls (alg : Int) (A : Option Addr) (n c : Nat) (w : World) :
    Calls Tryd.prog 28 #[.int .i64 alg, .slice A n c] w fun e w' => e = .returned (.func (.func 50) #[] #[.pointer (some ⟨w.heap.size, 0, none⟩), .pointer (some ⟨w.heap.size + 1, 0, none⟩)]) ∧ w' = (w.alloc (.cells #[.int .i64 alg] 3)).alloc (.cells #[.slice A n c] 31) := by
  go_enter Tryd.func28, Tryd.ntmps28
  go_wp2
  go_ret
  exact ⟨rfl, rfl⟩
theorem mask_len (alg : Int) (seed : List Int) : ∀ k, (maskTo alg seed k).length = k * (Sha.sizeN alg).toNat
  | 0 => by simp [maskTo]
  | k + 1 => by rw [maskTo, List.length_append, mask_len alg seed k, dig_len, Nat.succ_mul]
theorem cells_of_cell {w : World} {p : Addr} {v : Value} (h : w.cell? p = some v) {o : Obj} (ho : w.heap[p.block]? = some o) : o.isCells = true := by
  unfold World.cell? at h
  rw [ho] at h
  cases o <;> first | rfl | (simp at h)
theorem mk_own (alg : Int) (seed : List Int) (B : Nat) (C : Nat) : OwnFrom C (fun (s : Nat × Value) W => Mk alg seed B s.1 s.2 W) := by
  rintro ⟨k, x⟩ W W' row ⟨A, c, e, h1, h2, h3, h4⟩ hg hr
  refine ⟨A, c, e, h1, h2, ⟨h3.1, fun hl => ?_⟩, fun a ha => ⟨(h4 a ha).1, by have := (h4 a ha).2; have := hg.size; omega⟩⟩
  obtain ⟨a, ea, hcell⟩ := h3.2 hl
  refine ⟨a, ea, fun i hi => hg.cell (hcell i hi) (fun e' => ?_)⟩
  obtain ⟨_, o, ho, hc⟩ := hr _ e'.symm
  rw [cells_of_cell (hcell i hi) ho] at hc
  cases hc
set_option maxRecDepth 100000 in
set_option maxHeartbeats 8000000 in
theorem rsa_Mask.calls (a0 : Int) (A1 : Option Addr) (c1 : Nat) (l1 : List Int) (a2 : Int) (r1 : List Int) (r2 : Int) (w : World) (hr1 : Kd.C (Kd.int .u8) w A1 l1.length l1) (hc1 : l1.length ≤ c1) (hA1 : ∀ a, A1 = some a → a.block < w.heap.size) (hKA : Sha.KAt w) (h : rsa_Mask.f a0 l1 a2 = some (r1, r2)) :
    Calls Tryd.prog 14 #[.int .i64 a0, .slice A1 l1.length c1, .int .i64 a2] w fun e w' => ∃ A c, e = .returned (.tuple #[.slice A r1.length c, .int .i64 r2]) ∧ r1.length ≤ c ∧ c ≤ 9223372036854775807 ∧ K.Rd w' .u8 A r1 ∧ (∀ a, A = some a → w.heap.size ≤ a.block ∧ a.block < w'.heap.size) ∧ Below w.heap.size w w' := by
  unfold rsa_Mask.f at h
  split at h
  · rename_i hh
    obtain ⟨rfl, rfl⟩ := Prod.mk.inj (Option.some.inj h)
    clear h
    have hb : Below w.heap.size w (w.alloc (.cells #[.int .i64 a2] 3)) := (Below.refl _ _).alloc (Nat.le_refl _) _
    have hcell : (w.alloc (.cells #[.int .i64 a2] 3)).cell? ⟨w.heap.size, 0, none⟩ = some (.int .i64 a2) := (Boxed.new w _ _).cell
    by_cases h1 : Sha.sizeN a0 = 0
    · have h1' : (Sha.sizeN a0 == 0) = true := by simpa using h1
      go_enter Tryd.func14, Tryd.ntmps14
      go_wp2_with fail
      refine (Sha.sizef_calls a0 _).mono ?_
      rintro e w1 ⟨rfl, rfl⟩
      go_wp2
      go_ret2
      exact ⟨none, 0, rfl, Nat.le_refl _, by simp, K.Rd.nil _ _ _, (fun a ha => by cases ha), hb⟩
    · have h1' : (Sha.sizeN a0 == 0) = false := by simpa using h1
      have h2 : a2 < 0 ∨ 2048 < a2 := by
        rcases hh with h | h | h
        · exact absurd (size_eq a0 h) h1
        · exact .inl h
        · exact .inr h
      clear hh
      go_enter Tryd.func14, Tryd.ntmps14
      go_wp2_with fail
      refine (Sha.sizef_calls a0 _).mono ?_
      rintro e w1 ⟨rfl, rfl⟩
      by_cases h3 : a2 < 0
      · have h4 : ¬ 2048 < a2 := by omega
        go_wp2
        go_ret2
        exact ⟨none, 0, rfl, Nat.le_refl _, by simp, K.Rd.nil _ _ _, (fun a ha => by cases ha), hb⟩
      · have h4 : 2048 < a2 := by omega
        go_wp2
        go_ret2
        exact ⟨none, 0, rfl, Nat.le_refl _, by simp, K.Rd.nil _ _ _, (fun a ha => by cases ha), hb⟩
  · rename_i hno
    split at h
    · rename_i hh
      obtain ⟨hu, hl⟩ := hh
      have hal : algOk a0 = true := by cases h9 : algOk a0 <;> simp_all
      obtain ⟨hne, _, _⟩ := size_ne a0 hal
      have hne' : (Sha.sizeN a0 == 0) = false := by simpa using hne
      obtain ⟨n, rfl⟩ : ∃ n : Nat, a2 = (n : Int) := ⟨a2.toNat, by have : ¬ a2 < 0 := fun h => hno (.inr (.inl h)); omega⟩
      have hn : n ≤ 2048 := by have : ¬ (2048 : Int) < n := fun h => hno (.inr (.inr h)); omega
      obtain ⟨rfl, rfl⟩ := Prod.mk.inj (Option.some.inj h)
      clear h hno
      have hsz : 20 ≤ (Sha.sizeN a0).toNat := by
        unfold Sha.sizeN at hne ⊢
        repeat' (split <;> try omega)
        all_goals simp_all
      obtain ⟨sz, hszd⟩ : ∃ sz, sz = (Sha.sizeN a0).toNat := ⟨_, rfl⟩
      have hml := mask_len a0 l1
      have hsz2 : (Sha.sizeN a0).toNat ≤ 64 := by
        unfold Sha.sizeN
        repeat' (split <;> try omega)
      rw [← hszd] at hsz hml hsz2
      obtain ⟨Q, hKd⟩ : ∃ Q, Q = (n + sz - 1) / sz := ⟨_, rfl⟩
      have hK1 : n ≤ Q * sz := by
        rw [hKd]
        have := Nat.div_add_mod (n + sz - 1) sz
        have := Nat.mod_lt (n + sz - 1) (show 0 < sz by omega)
        rw [Nat.mul_comm]
        omega
      have hK2 : ∀ k, k < Q → k * sz < n := fun k hk => by
        have h1 : (k + 1) * sz ≤ Q * sz := Nat.mul_le_mul_right _ hk
        have h2 : Q * sz ≤ n + sz - 1 := by rw [hKd]; exact Nat.div_mul_le_self _ _
        rw [Nat.succ_mul] at h1
        omega
      have hK3 : Q ≤ 150 := by
        have h2 : Q * sz ≤ n + sz - 1 := by rw [hKd]; exact Nat.div_mul_le_self _ _
        refine Nat.le_of_not_lt fun h3 => ?_
        have h4 : 151 * sz ≤ Q * sz := Nat.mul_le_mul_right _ h3
        omega
      have hres : maskOf a0 l1 ((n : Int)).toNat = (maskTo a0 l1 Q).take n := by unfold maskOf; rw [Int.toNat_natCast, ← hszd, ← hKd]
      rw [hres]
      have hrd : K.Rd w .u8 A1 l1 := C_rd hr1
      have HSZ := Lib.hid hszd
      clear hr1 hres hKd hszd hne
      refine (callsIn_wide (n := 5)).1 ?_
      refine callsIn_of_wp_marks Tryd.func14 rfl trivial ?_ rfl
      simp only [Tryd.ntmps14, List.size_toArray, List.length_cons, List.length_nil, Nat.reduceAdd, Nat.reduceSub, Array.replicate_succ, Array.replicate_zero, List.push_toArray, List.append_toArray, List.nil_append, List.cons_append]
      have hcell : (w.alloc (.cells #[.int .i64 (n : Int)] 3)).cell? ⟨w.heap.size, 0, none⟩ = some (.int .i64 (n : Int)) := (Boxed.new w _ _).cell
      gi_wp2_with fail
      refine ⟨trivial, (callsIn_wide.2 (Sha.sizef_calls a0 _)).mono ?_⟩
      rintro e w1 ⟨rfl, rfl⟩
      gi_wp2_with fail
      refine ⟨trivial, (callsIn_wide.2 (blocks_calls a0 A1 l1.length c1 _)).mono ?_⟩
      rintro e w2 ⟨rfl, rfl⟩
      have n1 : (w.alloc (.cells #[.int .i64 (n : Int)] 3)).heap.size = w.heap.size + 1 := by simp
      have n2 : ((w.alloc (.cells #[.int .i64 (n : Int)] 3)).alloc (.cells #[.slice none 0 0] 31)).heap.size = w.heap.size + 2 := by simp
      have n3 : (((w.alloc (.cells #[.int .i64 (n : Int)] 3)).alloc (.cells #[.slice none 0 0] 31)).alloc (.cells #[.int .i64 a0] 3)).heap.size = w.heap.size + 3 := by simp
      have x0 := (((Boxed.new w 3 (.int .i64 (n : Int))).alloc (.cells #[.slice none 0 0] 31)).alloc (.cells #[.int .i64 a0] 3)).alloc (.cells #[.slice A1 l1.length c1] 31)
      have x1 := ((Boxed.new (w.alloc (.cells #[.int .i64 (n : Int)] 3)) 31 (.slice none 0 0)).alloc (.cells #[.int .i64 a0] 3)).alloc (.cells #[.slice A1 l1.length c1] 31)
      have x2 := (Boxed.new ((w.alloc (.cells #[.int .i64 (n : Int)] 3)).alloc (.cells #[.slice none 0 0] 31)) 3 (.int .i64 a0)).alloc (.cells #[.slice A1 l1.length c1] 31)
      have x3 := Boxed.new (((w.alloc (.cells #[.int .i64 (n : Int)] 3)).alloc (.cells #[.slice none 0 0] 31)).alloc (.cells #[.int .i64 a0] 3)) 31 (.slice A1 l1.length c1)
      have hb4 : Below w.heap.size w ((((w.alloc (.cells #[.int .i64 (n : Int)] 3)).alloc (.cells #[.slice none 0 0] 31)).alloc (.cells #[.int .i64 a0] 3)).alloc (.cells #[.slice A1 l1.length c1] 31)) := ((((Below.refl _ _).alloc (Nat.le_refl _) _).alloc (by omega) _).alloc (by omega) _).alloc (by omega) _
      rw [n1] at x1
      rw [n2] at x2 ⊢
      rw [n3] at x3
      rw [show w.heap.size + 2 + 1 = w.heap.size + 3 from rfl]
      generalize (((w.alloc (.cells #[.int .i64 (n : Int)] 3)).alloc (.cells #[.slice none 0 0] 31)).alloc (.cells #[.int .i64 a0] 3)).alloc (.cells #[.slice A1 l1.length c1] 31) = W0 at *
      clear n1 n2 n3 hcell
      gi_wp2
      have hs0 : w.heap.size + 3 < W0.heap.size := x3.lt
      refine range_rows (n := 5) rfl (by decide) (gf := 50) (lb := #[.pointer (some ⟨w.heap.size + 2, 0, none⟩), .pointer (some ⟨w.heap.size + 3, 0, none⟩)]) rfl trivial (enters_of Tryd.func50 (by kernel_rfl) rfl) _ (Q + 1) _
        (fun k W => k ≤ Q ∧ ((∃ v, Boxed W (w.heap.size + 1) 31 v ∧ W.ownsRow w.heap.size 5 1 v (maskTo a0 l1 k).length (K.nums .u8 (maskTo a0 l1 k)) ∧ True) ∧ (Boxed W w.heap.size 3 (.int .i64 (n : Int)) ∧ ((Boxed W (w.heap.size + 2) 3 (.int .i64 a0) ∧ Boxed W (w.heap.size + 3) 31 (.slice A1 l1.length c1)) ∧ Below w.heap.size w W))))
        (fun k W => (∃ v, Boxed W (w.heap.size + 1) 31 v ∧ W.ownsRow w.heap.size 5 1 v (maskTo a0 l1 Q).length (K.nums .u8 (maskTo a0 l1 Q)) ∧ True) ∧ (Boxed W w.heap.size 3 (.int .i64 (n : Int)) ∧ Below w.heap.size w W)) 0
        (blocks1_rounds 4 (by decide) a0 l1 hal hu hl (w.heap.size + 2) (w.heap.size + 3) A1 c1 hc1 w hrd hA1 hKA (Q + 1) (by omega)) rfl
        (OwnFrom.and (ownFrom_pure _ _) (OwnFrom.and (Own.from (holdsRow_own w.heap.size (w.heap.size + 1) 31 5 1 (fun k => (maskTo a0 l1 k).length) (fun k => K.nums .u8 (maskTo a0 l1 k)) (fun _ _ => True)) _) (OwnFrom.and (Own.from (boxed_own _ _ _) _) (OwnFrom.and (OwnFrom.and (Own.from (boxed_own _ _ _) _) (Own.from (boxed_own _ _ _) _)) (ownFrom_below (Nat.le_refl _) (by omega))))))
        (OwnFrom.and (Own.from (holdsRow_own w.heap.size (w.heap.size + 1) 31 5 1 (fun _ => (maskTo a0 l1 Q).length) (fun _ => K.nums .u8 (maskTo a0 l1 Q)) (fun _ _ => True)) _) (OwnFrom.and (Own.from (boxed_own _ _ _) _) (ownFrom_below (Nat.le_refl _) (by omega))))
        (mk_own _ _ _ _) ⟨Nat.zero_le _, ⟨_, x1, World.ownsRow_nil _ _ _ _, trivial⟩, x0, ⟨x2, x3⟩, hb4⟩ (fun k W h => ⟨Nat.lt_succ_of_le h.1, h.2.2.2⟩)
        ?a1 ?assign ?body ?stop
      case a1 => exact fun x => { tmps := #[.int .i64 a0, .slice A1 l1.length c1, .int .i64 (n : Int), undef, undef, .pointer (some ⟨w.heap.size, 0, none⟩), .slice none 0 0, .int .i64 0, .pointer (some ⟨w.heap.size + 1, 0, none⟩), x, .int .i64 a0, .int .i64 (Sha.sizeN a0), .bool false, .bool false, .int .i64 (n : Int), .bool (decide ((n : Int) < 0)), .bool (decide ((n : Int) < 0)), .bool (decide ((n : Int) < 0)), .int .i64 (n : Int), .bool (decide ((2048 : Int) < n)), .bool (decide ((n : Int) < 0) || decide ((2048 : Int) < n)), .int .i64 a0, .slice A1 l1.length c1, .func (.func 50) #[] #[.pointer (some ⟨w.heap.size + 2, 0, none⟩), .pointer (some ⟨w.heap.size + 3, 0, none⟩)], x, undef, undef, undef, undef, undef, undef, undef, undef, undef, undef, undef], defers := [] }
      case assign =>
        intro l x W K hK
        gi_wp2
        exact hK
      case body =>
        rintro l k x W ⟨hk, ⟨v, hv, hrow, _⟩, hx0, ⟨hx2, hx3⟩, hB⟩ ⟨A, c, rfl, hle, h63, hrd, hat⟩
        clear x0 x1 x2 x3
        obtain ⟨A2, c2, rfl, hle2, h632, hat2, hrd2⟩ := K.Own.rd (show K.Own W w.heap.size .u8 5 v (maskTo a0 l1 k) from hrow)
        have hnb := hx0.cell
        have hml2 := hml k
        have hdl : (dig a0 (l1 ++ be32 (k : Int))).length = sz := by rw [dig_len]; exact HSZ.out.symm
        rw [hdl] at hle ⊢
        have hmk : maskTo a0 l1 (k + 1) = maskTo a0 l1 k ++ dig a0 (l1 ++ be32 (k : Int)) := rfl
        generalize dig a0 (l1 ++ be32 (k : Int)) = d at *
        obtain ⟨ad, rfl, hdc⟩ := hrd.2 (by omega)
        obtain ⟨L, hL⟩ : ∃ L, L = (maskTo a0 l1 k).length := ⟨_, rfl⟩
        rw [← hL] at hv hrow hle2 hml2
        have hvb := hv.cell
        by_cases hkq : k < Q
        · have hkn := hK2 k hkq
          have hlti : ¬ (n : Int) ≤ (L : Int) := by omega
          have hL4 : L + sz ≤ 4000 := by omega
          have hmkl : (maskTo a0 l1 (k + 1)).length = L + sz := by rw [hmk, List.length_append, ← hL, hdl]
          have HMK := Lib.hid hmk
          have HMKL := Lib.hid hmkl
          have HDL := Lib.hid hdl
          have HR := Lib.hid hrow
          obtain ⟨i0, hi, hz0, hz1, hz2⟩ := info_parts info_u8
          have HI := Lib.hid hi
          have HZ0 := Lib.hid hz0
          have HZ1 := Lib.hid hz1
          have HZ2 := Lib.hid hz2
          have HDC := Lib.hid hdc
          clear hmk hdl hrow hmkl hi hz0 hz1 hz2 hdc hml hml2 hL hkn hK2 hrd hrd2 hat hat2 hle2
          have HNC : Hid (∀ j u, (K.nums .u8 d)[j]? = some u → W.cell? (ad.add j) = some u) := Lib.hid (fun j u hu => by
            obtain ⟨hj, _⟩ := List.getElem?_eq_some_iff.1 hu
            rw [K.nums_length] at hj
            rw [K.nums_get _ _ _ hj] at hu
            rw [HDC.out j hj]; exact hu)
          have HN1 : Hid (∀ u ∈ K.nums .u8 d, u.oneCell' = true) := Lib.hid (fun u hu => by
            obtain ⟨x, _, rfl⟩ := List.mem_map.1 hu
            rfl)
          gi_wp2_with (gi_at_builtin; refine wpListIn_append_own _ rfl _ _ 31 rfl w.heap.size 5 i0 (.int .u8 0) 1 1 Tryd.underlying31 HI.out HZ0.out HZ1.out HZ2.out rfl (by decide) (.slice A2 L c2) L (K.nums .u8 (maskTo a0 l1 k)) rfl HR.out ad sz c (K.nums .u8 d) rfl (by rw [K.nums_length, HDL.out, Nat.mul_one]) HNC.out HN1.out (Nat.le_trans hL4 (by decide)) (by omega) hB.size ?_; intro v' w1 hown' hgrow _; have hO' : K.Own w1 w.heap.size .u8 5 v' (maskTo a0 l1 (k + 1)) := (by show w1.ownsRow _ _ _ _ _ _; rw [HMKL.out, HMK.out, K.nums_append]; exact hown'); obtain ⟨A4, c4, rfl, hle4, h634, hat4, hrd4⟩ := hO'.rd; have hv1 := hv.kept hgrow (hv.not_row (by decide) HR.out); have hc1 := hv1.cell; have hf1 := hv1.frozen)
          have hown4 : w1.ownsRow w.heap.size 5 1 (.slice A4 (maskTo a0 l1 (k + 1)).length c4) (maskTo a0 l1 (k + 1)).length (K.nums .u8 (maskTo a0 l1 (k + 1))) := hO'
          have hblk : ∀ j, (Value.slice A2 L c2).ownBlock = some j → w.heap.size ≤ j ∧ ∀ o, W.heap[j]? = some o → o.isCells = true := by
            intro j ej
            rcases HR.out.2 with ⟨e, _⟩ | ⟨g, cap, cur, e, hb9, hgb, _⟩
            · rw [e] at ej; simp [Value.ownBlock] at ej
            · rw [e] at ej
              obtain rfl : g = j := by simpa [Value.ownBlock] using ej
              exact ⟨hb9, fun o ho => by rw [hgb] at ho; cases ho; rfl⟩
          refine ⟨((KeepsOthers.of_grownBy hgrow fun j o ej hj => (hblk j ej).2 o hj).trans (KeepsOthers.setCell _ _ _)).from _, by omega, ⟨_, hv1.set _, hown4.kept (grownBy_setCell' w1 _ _) (.inr (hv1.not_row (by decide) hown4).symm)⟩, (hx0.kept hgrow (hx0.not_row (by decide) HR.out)).other (by omega) _, ⟨(hx2.kept hgrow (hx2.not_row (by decide) HR.out)).other (by omega) _, (hx3.kept hgrow (hx3.not_row (by decide) HR.out)).other (by omega) _⟩, (K.below_grown hB hgrow hB.size (fun b hb => (hblk b hb).1)).setCell (p := ⟨w.heap.size + 1, 0, none⟩) (by show _ ≤ w.heap.size + 1; omega) _⟩
        · obtain rfl : k = Q := by omega
          have hlti : (n : Int) ≤ (L : Int) := by omega
          have HRR : Hid (W.ownsRow w.heap.size 5 1 (.slice A2 L c2) (maskTo a0 l1 k).length (K.nums .u8 (maskTo a0 l1 k))) := Lib.hid (by rw [← hL]; exact hrow)
          clear hml hml2 hL hK2 hrd hrd2 hat hat2 hle2 hdl hdc hmk hrow
          gi_wp2
          exact ⟨rfl, KeepsFrom.refl _ _, ⟨_, hv, HRR.out, trivial⟩, hx0, hB⟩
      case stop =>
        rintro D k W hD ⟨⟨v, hv, hrow, _⟩, hx0, hB⟩ hK
        clear x0 x1 x2 x3
        obtain ⟨A2, c2, rfl, hle2, h632, hat2, hrd2⟩ := K.Own.rd (show K.Own W w.heap.size .u8 5 v (maskTo a0 l1 Q) from hrow)
        have hnb := hx0.cell
        have hqn := hml Q
        obtain ⟨L, hL⟩ : ∃ L, L = (maskTo a0 l1 Q).length := ⟨_, rfl⟩
        rw [← hL] at hv hle2 hqn
        have hvb := hv.cell
        have hnL : n ≤ L := by omega
        clear hqn
        have HL := Lib.hid hL
        clear hL hml
        gi_wp2
        refine ⟨by simp, .inl ⟨_, _, rfl, run_takeDeferred hK, ?_⟩⟩
        have hlen : ((maskTo a0 l1 Q).take n).length = n := by rw [List.length_take, ← HL.out]; omega
        have hrdn : K.Rd (W.putObj D (.deferred none)) .u8 A2 ((maskTo a0 l1 Q).take n) := by
          have hr := hrd2.take n
          refine ⟨hr.1, fun hl => ?_⟩
          obtain ⟨a, ea, hc⟩ := hr.2 hl
          refine ⟨a, ea, fun i hi => (grownBy_putObj' W D (.deferred none)).cell (hc i hi) (fun e' => ?_)⟩
          have h9 := cells_of_cell (hc i hi) (o := .deferred (some [])) (by rw [show (a.add i).block = D by simpa using e']; exact hK)
          cases h9
        refine ⟨_, results_tmp2 rfl _ _ _, A2, n, by rw [hlen]; rfl, by rw [hlen]; exact Nat.le_refl _, by omega, hrdn, fun a ha => ⟨(hat2 a ha).1, by have := (hat2 a ha).2; simpa [World.putObj] using this⟩, hB.trans (belowK_b (w := w) (Nat.le_refl _) W D _ _ (by omega) hK rfl rfl)⟩
    · cases h
end Go.Proofs.YtdncmmipopdhbaaDoor.P
end

section
/-
  Walk: der.arcs.
-/
set_option linter.unusedVariables false
set_option linter.unusedSimpArgs false
namespace Go.Proofs.YtdncmmipopdhbaaDoor.P
open Go.RowKit Go.Proofs.YtdncmmipopdhbaaDoorW.PrintWords Go.Proofs.YtdncmmipopdhbaaDoorW.PrintLast Go.Proofs.YtdncmmipopdhbaaDoorW.PrintMore

/-- An identifier under way: its numbers, the one under way, how many digits it has. -/
structure AS where
  l : List Int
  v : Int
  n : Int
def astep (s : AS) (c : Int) : Option AS :=
  if c = 46 ∧ 0 < s.n then some ⟨s.l ++ [s.v], 0, 0⟩
  else if c < 48 ∨ 57 < c ∨ (s.n = 1 ∧ s.v = 0) ∨ 1000000 < 10 * s.v + (c - 48) ∨ 19 < s.n then none
  else some ⟨s.l, 10 * s.v + (c - 48), s.n + 1⟩
def aall : List Int → AS → Option AS
  | [], s => some s
  | c :: cs, s => (astep s c).bind (aall cs)
def sb (s : ByteArray) : List Int := s.data.toList.map fun u => (u.toNat : Int)
theorem sb_drop (s : ByteArray) (p : Nat) (h : p < s.size) : (sb s).drop p = ((s[p]'h).toNat : Int) :: (sb s).drop (p + 1) := by
  unfold sb
  rw [List.drop_eq_getElem_cons (by simpa using h), List.getElem_map]
  rfl
theorem sb_end (s : ByteArray) (p : Nat) (h : ¬ p < s.size) : (sb s).drop p = [] := by
  unfold sb
  apply List.drop_eq_nil_of_le
  have : s.data.toList.length = s.size := by simp
  rw [List.length_map]; omega
theorem info_u64 : (Tryd.prog.info? 71).map (fun i => (i.zero, i.size, i.bytes)) = some (some (.int .u64 0), 1, 8) := by kernel_rfl
theorem own_iterAt {w : World} {base : Nat} {k : IntKind} {T : Nat} {v : Value} {l : List Int} (h : K.Own w base k T v l) {b : Nat} (hb : b < base) (s : ByteArray) (p : Nat) : K.Own (w.iterAt b s p) base k T v l := ownsRow_iterAt h hb s p
set_option maxHeartbeats 8000000 in
set_option maxRecDepth 100000 in
theorem arcs_calls (s : ByteArray) (w : World) (t : ByteArray) (ht : s ++ ⟨#[46]⟩ = t) (hs9 : s.size ≤ 99) (hsz : t.size ≤ 100) (hasc : ∀ p (h : p < t.size), (t[p]'h).toNat < 128) (F : AS) (hF : aall (sb t) ⟨[], 0, 0⟩ = some F) (x0 x1 : Int) (hL : 2 ≤ F.l.length) (h0 : F.l.getD 0 0 = x0) (h1 : F.l.getD 1 0 = x1) (hv : 0 ≤ x0 ∧ x0 ≤ 2 ∧ 0 ≤ x1 ∧ x1 < 1000001 ∧ (x0 = 2 ∨ x1 < 40)) :
    Calls Tryd.prog 85 #[.string s] w fun e w' => ∃ v, e = .returned (.tuple #[v, .bool true]) ∧ K.Own w' w.heap.size .u64 71 v F.l ∧ Below w.heap.size w w' := by
  have HF := Lib.hid hF
  have HA := Lib.hid hasc
  have HL := Lib.hid hL
  have H0 := Lib.hid h0
  have H1 := Lib.hid h1
  have HT := Lib.hid ht
  clear hF hasc h0 h1 ht hL
  go_enter Tryd.func85, Tryd.ntmps85
  go_wp2
  rw [HT.out]
  go_loopw [4, 5, 6] (fun s4 s5 s6 wr => ∃ (pos n : Nat) (A : Option Addr) (c : Nat) (l : List Int) (v nn : Int), s4 = .slice A n c ∧ s5 = .int .u64 v ∧ s6 = .int .i64 nn ∧ wr.heap[w.heap.size]? = some (.stringIter t pos) ∧ K.Own wr (w.heap.size + 1) .u64 71 (.slice A n c) l ∧ Hid (l.length = n) ∧ n ≤ pos ∧ 0 ≤ v ∧ v ≤ 1000000 ∧ 0 ≤ nn ∧ nn ≤ 20 ∧ Below w.heap.size w wr ∧ Hid (aall ((sb t).drop pos) ⟨l, v, nn⟩ = some F)) (fun _ _ _ wr => t.size - wr.iterPos w.heap.size)
  case atStart => exact ⟨0, 0, none, 0, [], 0, 0, rfl, rfl, rfl, World.iter_heap w t 0, K.Own.nil _ _ _ _, Lib.hid rfl, Nat.le_refl _, by omega, by omega, by omega, by omega, (Below.refl _ _).alloc (Nat.le_refl _) _, HF⟩
  case round =>
    obtain ⟨pos, n, A, c, l, v, nn, rfl, rfl, rfl, hit, hO, hn, hnp, hv0, hv1, hn0, hn1, hB, hS⟩ := hrel
    have hpos0 := iterPos_of hit
    by_cases hp : pos < t.size
    · have hnx : ∀ ty, (Instr.next (.pointer (some ⟨w.heap.size, 0, none⟩)) true ty).run Tryd.prog wr = _ := fun ty => Lib.run_next_ascii_at wr w.heap.size t pos ty hit hp (HA.out pos hp)
      have hdr := sb_drop t pos hp
      have hc128 := HA.out pos hp
      generalize (t[pos]'hp).toNat = ch at *
      have hS1 := hS.out
      rw [hdr] at hS1
      have hit2 := Lib.iterAt_heap wr w.heap.size t pos (pos + 1) hit
      have hB2 := Lib.below_iterAt hB (k := w.heap.size) (Nat.le_refl _) t (pos + 1)
      have hO2 := own_iterAt hO (b := w.heap.size) (by omega) t (pos + 1)
      obtain ⟨W1, hW1⟩ : ∃ W1, W1 = wr.iterAt w.heap.size t (pos + 1) := ⟨_, rfl⟩
      rw [← hW1] at hnx hit2 hB2 hO2
      have HP0 := Lib.hid hpos0
      have HIT := Lib.hid hit2
      clear hW1 hit hO hB hdr hpos0 hS hit2
      rw [aall] at hS1
      have hwc : IntKind.i32.wrap ((ch : Int) - 48) = (ch : Int) - 48 := IntWalk.i32_in _ ⟨by omega, by omega⟩
      by_cases hd : (ch : Int) = 46 ∧ 0 < nn
      · obtain ⟨hd1, hd2⟩ := hd
        have hst : astep ⟨l, v, nn⟩ (ch : Int) = some ⟨l ++ [v], 0, 0⟩ := by unfold astep; rw [if_pos ⟨hd1, hd2⟩]
        rw [hst] at hS1
        have HS1 := Lib.hid hS1
        have hq : ((ch : Int) == 46) = true := by simpa using hd1
        have hs1 := hB2.size
        clear hS1 hst hwc hd1
        go_wp2_with (refine K.wpList_ap1n (w.heap.size + 1) .u64 rfl _ _ 69 71 8 (by rfl) Tryd.underlying69 info_u64 (by decide) (.slice A n c) _ _ (by rfl) (by rfl) hO2 n hn.out (by omega) (by have := (Array.getElem?_eq_some_iff.1 HIT.out).1; omega) (n + 1) rfl ?_; intro Au cu wu hOu hgu; have hitu : Hid (wu.heap[w.heap.size]? = some (.stringIter t (pos + 1))) := Lib.hid (by rw [hgu.block w.heap.size (Array.getElem?_eq_some_iff.1 HIT.out).1 (fun e => by have := hO2.base_le _ e.symm; omega)]; exact HIT.out); have hBu := K.below_grown hB2 hgu hs1 (fun b hb => by have := hO2.base_le _ hb; omega))
        go_roundw
        case rel => exact ⟨pos + 1, n + 1, Au, cu, l ++ [v], 0, 0, rfl, rfl, rfl, hitu.out, hOu, Lib.hid (by rw [List.length_append, hn.out]; rfl), by omega, by omega, by omega, by omega, by omega, hBu, Lib.hid (by have h := HS1.out; rwa [Option.bind_some] at h)⟩
        case measure => rw [iterPos_of hitu.out, HP0.out]; omega
      · have hst : astep ⟨l, v, nn⟩ (ch : Int) = some ⟨l, 10 * v + ((ch : Int) - 48), nn + 1⟩ ∧ ¬ ((ch : Int) < 48 ∨ 57 < (ch : Int) ∨ (nn = 1 ∧ v = 0) ∨ 1000000 < 10 * v + ((ch : Int) - 48) ∨ 19 < nn) := by
          unfold astep at hS1 ⊢
          rw [if_neg hd] at hS1 ⊢
          split at hS1
          · simp at hS1
          · rename_i hno
            exact ⟨by rw [if_neg hno], hno⟩
        obtain ⟨hst, hno⟩ := hst
        rw [hst] at hS1
        have HS1 := Lib.hid hS1
        have c48 : ¬ (ch : Int) < 48 := fun h => hno (.inl h)
        have c57 : ¬ 57 < (ch : Int) := fun h => hno (.inr (.inl h))
        have cbig : 10 * v + ((ch : Int) - 48) ≤ 1000000 := by have := fun h => hno (.inr (.inr (.inr (.inl h)))); omega
        have c19 : nn ≤ 19 := by have := fun h => hno (.inr (.inr (.inr (.inr h)))); omega
        have q46 : ((ch : Int) == 46) = false := by simp; omega
        have hzz : ¬ (nn = 1 ∧ v = 0) := fun h => hno (.inr (.inr (.inl h)))
        clear hS1 hst hno hd
        by_cases hn1' : nn = 1
        · subst hn1'
          have hv0' : (v == 0) = false := by have : ¬ v = 0 := fun h => hzz ⟨rfl, h⟩; simpa using this
          clear hzz
          go_wp2
          go_roundw
          case rel => exact ⟨pos + 1, n, A, c, l, 10 * v + ((ch : Int) - 48), 2, rfl, rfl, rfl, HIT.out, hO2, hn, by omega, by omega, by omega, by omega, by omega, hB2, Lib.hid (by have h := HS1.out; rwa [Option.bind_some] at h)⟩
          case measure => rw [iterPos_of HIT.out, HP0.out]; omega
        · have hn1'' : (nn == 1) = false := by simpa using hn1'
          clear hzz
          go_wp2
          go_roundw
          case rel => exact ⟨pos + 1, n, A, c, l, 10 * v + ((ch : Int) - 48), nn + 1, rfl, rfl, rfl, HIT.out, hO2, hn, by omega, by omega, by omega, by omega, by omega, hB2, Lib.hid (by have h := HS1.out; rwa [Option.bind_some] at h)⟩
          case measure => rw [iterPos_of HIT.out, HP0.out]; omega
    · have hnx : ∀ ty, (Instr.next (.pointer (some ⟨w.heap.size, 0, none⟩)) true ty).run Tryd.prog wr = _ := fun ty => Lib.run_next_end_at wr w.heap.size t pos ty hit hp
      have hS1 := hS.out
      rw [sb_end t pos hp, aall] at hS1
      obtain rfl := Option.some.inj hS1
      have hl2 : 2 ≤ n := by have := HL.out; rw [← hn.out]; exact this
      have hO' := hO
      obtain ⟨A9, c9, e9, hle9, h639, hAo, hR9⟩ := hO.rd
      rw [hn.out] at e9 hle9
      obtain ⟨rfl, _, rfl⟩ := Value.slice.inj e9
      obtain ⟨a9, rfl, hcell⟩ := hR9.2 (by rw [hn.out]; omega)
      have hc0 : wr.cell? a9 = some (.int .u64 (l.getD 0 0)) := by have := hcell 0 (by rw [hn.out]; omega); simpa [Addr.add] using this
      have hc1 := hcell 1 (by rw [hn.out]; omega)
      have hc1b : wr.cell? ⟨a9.block, a9.off + 1, none⟩ = some (.int .u64 (l.getD 1 0)) := by have := hcell 1 (by rw [hn.out]; omega); simpa [Addr.add] using this
      have E0 := H0.out
      have E1 := H1.out
      simp only at E0 E1
      rw [E0] at hc0
      rw [E1] at hc1 hc1b
      obtain ⟨hx0, hx2, hx1, hx1', hx3⟩ := hv
      have hl2' : (2 : Int) ≤ (n : Int) := by omega
      have hn1' : (1 : Int) < (n : Int) := by omega
      have hn0' : (0 : Int) < (n : Int) := by omega
      clear hS1 e9 hcell E0 E1 hS hAo hR9 hO
      by_cases h2 : x0 = 2
      · subst h2
        go_wp2
        go_ret2
        exact ⟨_, rfl, hO'.mono (Nat.le_succ _), hB⟩
      · have h2' : x0 < 2 := by omega
        have hx40 : x1 < 40 := by omega
        go_wp2
        go_ret2
        exact ⟨_, rfl, hO'.mono (Nat.le_succ _), hB⟩
end Go.Proofs.YtdncmmipopdhbaaDoor.P
end

section
-- What the print of the kit writes for this function (through a program of mine that hands it contracts of functions that it does not take).
namespace Go.Proofs.YtdncmmipopdhbaaDoor.P
open Go.RowKit Go.Proofs.YtdncmmipopdhbaaDoorW.PrintWords Go.Proofs.YtdncmmipopdhbaaDoorW.PrintLast Go.Proofs.YtdncmmipopdhbaaDoorW.PrintMore
attribute [local go_sem] max2_int min2_int max_two min_two max_three min_three max_four min_four   -- for this text's walks alone
set_option linter.unusedVariables false
set_option linter.unusedSimpArgs false

/-! ### der_seven: function 86 -/
def der_seven.l0 : Nat → Int → List Int → Option (List Int)
  | 0, _, _ => none
  | k + 1, x0, x3 => if x0 > 0 then ((some (([Go.bits .or .u8 ((x0) % 256) 128] : List Int) : List Int)).bind fun y121 => (if y121.length + x3.length < 140737488355328 then (der_seven.l0 k (x0 / 128) (y121 ++ x3)) else (none))) else (some x3)
def der_seven.f (k : Nat) (a0 : Int) : Option (List Int) := der_seven.l0 k (a0 / 128) (([(Go.bits .and .u64 a0 127) % 256] : List Int))
theorem der_seven.mono_l : ∀ k, (∀ y0 y1, LeO (der_seven.l0 k y0 y1) (der_seven.l0 (k + 1) y0 y1))
  | 0 => fun _ _ r h => by simp [der_seven.l0] at h
  | k + 1 => by
    have ih0 := der_seven.mono_l k
    · intro y0 y1
      unfold der_seven.l0
      repeat' first
      | (with_reducible exact ih0 _ _)
      | (with_reducible exact LeO.refl _)
      | (with_reducible exact LeO.none _)
      | (with_reducible refine LeO.ite ?_ ?_)
      | (with_reducible refine LeO.bind ?_ (fun _ => ?_))
      | exact ih0 _ _
      | exact LeO.none _
      | refine LeO.ite ?_ ?_
      | refine LeO.bind ?_ (fun _ => ?_)
theorem der_seven.mono : ∀ a0 k, LeO (der_seven.f k a0) (der_seven.f (k + 1) a0) := by
  intro a0 k
  have ih0 := der_seven.mono_l k
  unfold der_seven.f
  repeat' first
      | (with_reducible exact ih0 _ _)
      | (with_reducible exact LeO.refl _)
      | (with_reducible exact LeO.none _)
      | (with_reducible refine LeO.ite ?_ ?_)
      | (with_reducible refine LeO.bind ?_ (fun _ => ?_))
      | exact ih0 _ _
      | exact LeO.none _
      | refine LeO.ite ?_ ?_
      | refine LeO.bind ?_ (fun _ => ?_)
set_option maxHeartbeats 8000000 in
set_option maxRecDepth 100000 in
theorem der_seven.calls (k : Nat) (a0 : Int) (r : List Int) (w : World) (h : der_seven.f k a0 = some r) :
    Calls Tryd.prog 86 #[.int .u64 a0] w fun e w' => ∃ v0_ : Value, e = .returned (v0_) ∧ Kd.R (Kd.int .u8) 5 w' w.heap.size (fun _ => True) v0_ r ∧ Below w.heap.size w w' := by
  have HB := Aside0.mk (Below.refl w.heap.size w)
  have H : (der_seven.l0 k (a0 / 128) (([(Go.bits .and .u64 a0 127) % 256] : List Int))) = some r := h
  clear h
  obtain ⟨y118, hy118⟩ : ∃ y_ : List Int, y_ = (([(Go.bits .and .u64 a0 127) % 256] : List Int)) := ⟨_, rfl⟩
  replace H : (der_seven.l0 k (a0 / 128) y118) = some r := by first | (rw [hy118]; with_reducible exact H) | (have H2_ := (Option.bind_some _ _).symm.trans H; rw [hy118]; with_reducible exact H2_) | (have H2_ := (Option.bind_some _ _).symm.trans H; with_reducible exact H2_) | with_reducible exact H | (rw [hy118]; exact H) | exact H
  have Ny118 := Aside0.mk hy118
  clear hy118
  have H' := Aside0.mk H
  clear H
  go_enter Tryd.func86, Tryd.ntmps86
  go_wp2_with (first | ((with_reducible refine gate_dst (N := 7) rfl ?_); refine Kd.R_lit (Kd.int .u8) _ 5 ?hg (N := 7) ?hd (xs := ([(Go.bits .and .u64 a0 127) % 256] : List Int)) (inner := [.int .u8 ((Go.bits .and .u64 a0 127) % 256)]) (ok := fun _ => True) (okp := fun _ => True) ?hr ?hp (fun _ hk => hk) trivial (Below.refl _ _) (Nat.le_refl _) (by simp) ?_; (case hd => rfl); (case hg => rfl); (case hr => first | (go_simp; done) | (go_simp; rfl)); (case hp => exact (Reps.one (show Kd.M (Kd.int .u8) _ _ _ ((Go.bits .and .u64 a0 127) % 256) [.int .u8 ((Go.bits .and .u64 a0 127) % 256)] from rfl) (Reps.none _ _))); intro v119 w2 ho3 hb hg_ hnew_; clear hg_ hnew_; (first | rw [← Ny118.out] at ho3 | (simp only [Int.reduceToNat] at ho3; rw [← Ny118.out] at ho3)); have n0_ := Aside0.mk (Kd.R_lower ho3 (below_size (by repeat (first | (with_reducible first | exact HB.out | apply below_alloc | apply pw_below_drewN | apply below_drew1) | exact HB.out)))); have n1_ := Aside0.mk (below_step (by repeat (first | (with_reducible first | exact HB.out | apply below_alloc | apply pw_below_drewN | apply below_drew1) | exact HB.out)) hb); clear HB; have HO120 := n0_; have HB := n1_; clear n0_ n1_; clear hb ho3))
  go_loopg [0, 3] k (fun kq v0 v3 w' => ∃ (x0_1 : Int) (x3_1 : List Int), v0 = .int .u64 x0_1 ∧ Aside0 (der_seven.l0 kq x0_1 x3_1 = some r) ∧ Aside0 (kq ≤ k) ∧ Aside0 (Kd.R (Kd.int .u8) 5 w' w.heap.size (fun _ => True) v3 x3_1) ∧ Aside0 (Below w.heap.size w w'))
  case atStart => exact ⟨(a0 / 128), (y118), (by first | rfl | (simp; done) | (simp [*]; done)), H', ⟨Nat.le_refl _⟩, ⟨by (with_reducible repeat (first | apply Kd.R_alloc | apply Kd.R_drewN | apply Kd.R_drew)); exact HO120.out⟩, ⟨by repeat (first | (with_reducible first | exact HB.out | apply below_alloc | apply pw_below_drewN | apply below_drew1) | exact HB.out)⟩⟩
  case round =>
    clear H'
    try clear p2
    obtain ⟨x0_1, x3_1, rfl, HA, HK1, HO_3, HB⟩ := hrel
    cases gk with
    | zero => exact absurd HA.out (by simp [der_seven.l0])
    | succ k1 =>
      have H := HA.out
      clear HA
      simp only [der_seven.l0] at H
      by_cases c4 : x0_1 > 0
      · rw [if_pos c4] at H
        have c4b0 : decide (0 < x0_1) = true := decide_eq_true c4
        clear c4
        obtain ⟨y121, hy121⟩ : ∃ y_ : List Int, y_ = (([Go.bits .or .u8 ((x0_1) % 256) 128] : List Int)) := ⟨_, rfl⟩
        replace H : (if y121.length + x3_1.length < 140737488355328 then (der_seven.l0 k1 (x0_1 / 128) (y121 ++ x3_1)) else (none)) = some r := by first | (rw [hy121]; with_reducible exact H) | (have H2_ := (Option.bind_some _ _).symm.trans H; rw [hy121]; with_reducible exact H2_) | (have H2_ := (Option.bind_some _ _).symm.trans H; with_reducible exact H2_) | with_reducible exact H | (rw [hy121]; exact H) | exact H
        have Ny121 := Aside0.mk hy121
        clear hy121
        by_cases c5 : y121.length + x3_1.length < 140737488355328
        · rw [if_pos c5] at H
          have LMc5 := Aside0.mk c5
          clear c5
          obtain ⟨y124, hy124⟩ : ∃ y_ : List Int, y_ = (y121 ++ x3_1) := ⟨_, rfl⟩
          replace H : (der_seven.l0 k1 (x0_1 / 128) y124) = some r := by first | (rw [hy124]; with_reducible exact H) | (have H2_ := (Option.bind_some _ _).symm.trans H; rw [hy124]; with_reducible exact H2_) | (have H2_ := (Option.bind_some _ _).symm.trans H; with_reducible exact H2_) | with_reducible exact H | (rw [hy124]; exact H) | exact H
          have Ny124 := Aside0.mk hy124
          clear hy124
          have H' := Aside0.mk H
          clear H
          go_wp2_with (first | ((with_reducible refine gate_dst (N := 17) rfl ?_); refine Kd.R_lit (Kd.int .u8) _ 5 ?hg (N := 17) ?hd (xs := ([Go.bits .or .u8 ((x0_1) % 256) 128] : List Int)) (inner := [.int .u8 (Go.bits .or .u8 ((x0_1) % 256) 128)]) (ok := fun _ => True) (okp := fun _ => True) ?hr ?hp (fun _ hk => hk) trivial (Below.refl _ _) (Nat.le_refl _) (by simp) ?_; (case hd => rfl); (case hg => rfl); (case hr => first | (go_simp; done) | (go_simp; rfl)); (case hp => exact (Reps.one (show Kd.M (Kd.int .u8) _ _ _ (Go.bits .or .u8 ((x0_1) % 256) 128) [.int .u8 (Go.bits .or .u8 ((x0_1) % 256) 128)] from rfl) (Reps.none _ _))); intro v122 w6 ho7 hb hg_ hnew_; clear hg_ hnew_; (first | rw [← Ny121.out] at ho7 | (simp only [Int.reduceToNat] at ho7; rw [← Ny121.out] at ho7)); have n0_ := Aside0.mk (Kd.R_elder' (by (with_reducible repeat (first | apply Kd.R_alloc | apply Kd.R_drewN | apply Kd.R_drew)); exact HO_3.out) (Kd.R_base ho7) hb); have n1_ := Aside0.mk (Kd.R_lower (Kd.R_new' ho7 (Kd.R_lt (by (with_reducible repeat (first | apply Kd.R_alloc | apply Kd.R_drewN | apply Kd.R_drew)); exact HO_3.out))) (below_size (by repeat (first | (with_reducible first | exact HB.out | apply below_alloc | apply pw_below_drewN | apply below_drew1) | exact HB.out)))); have n2_ := Aside0.mk (below_step (by repeat (first | (with_reducible first | exact HB.out | apply below_alloc | apply pw_below_drewN | apply below_drew1) | exact HB.out)) hb); clear HO_3; clear HB; have HO_3 := n0_; have HO123 := n1_; have HB := n2_; clear n0_ n1_ n2_; clear hb ho7; obtain ⟨Ao9, co9, eo9⟩ := Kd.R_slice HO_3.out; subst eo9) | ((with_reducible refine gate_builtin (b := .append) (xs := #[.tmp 17, .tmp 18]) rfl ?_); at_builtin; refine Kd.R_append_rows (Kd.int .u8) (w0 := w) w.heap.size rfl (.tmp 17) (.tmp 18) 31 5 (.int .u8 0) 1 rfl Tryd.underlying31 info5 rfl (by decide) (by omega) v122 y121 x3_1 _ _ _ (fun k_ => some k_ ≠ (.slice Ao9 x3_1.length co9 : Value).ownBlock) (fun _ => False) rfl rfl ?aO ?aR (fun _ _ h => h) (fun _ h => h.elim) ?aF ?aB ?aS ?aL ?_; (case aR => repeat (first | exact (Kd.R_reads' HO_3.out).2.2 | (with_reducible refine Kd.C_alloc ?_ _) | (with_reducible refine Kd.C_drewN ?_ _) | (with_reducible refine Kd.C_drew ?_))); (case aB => exact (by repeat (first | (with_reducible first | exact HB.out | apply below_alloc | apply pw_below_drewN | apply below_drew1) | exact HB.out))); (case aF => exact (fun k_ hk => Kd.fresh' (Kd.R_lt (by (with_reducible repeat (first | apply Kd.R_alloc | apply Kd.R_drewN | apply Kd.R_drew)); exact HO_3.out)) k_ hk)); (case aO => exact (by (with_reducible repeat (first | apply Kd.R_alloc | apply Kd.R_drewN | apply Kd.R_drew)); exact Kd.R_mono HO123.out (fun _ hk => hk.2))); (case aS => exact (below_size (by repeat (first | (with_reducible first | exact HB.out | apply below_alloc | apply pw_below_drewN | apply below_drew1) | exact HB.out)))); (case aL => have := LMc5.out; omega); intro v125 w8 ho hb hg hat; rw [← Ny124.out] at ho; have n0_ := Aside0.mk (Kd.R_after (ok := (fun _ => True)) (by (with_reducible repeat (first | apply Kd.R_alloc | apply Kd.R_drewN | apply Kd.R_drew)); exact HO_3.out) hg hat); have n1_ := Aside0.mk (hb); have n2_ := Aside0.mk (ho); clear HO_3; clear HB; clear HO123; have HO_3 := n0_; have HB := n1_; have HO126 := n2_; clear n0_ n1_ n2_; clear ho hb hg hat))
          go_roundg k1
          case measure => have := HK1.out; omega
          case rel => exact ⟨(x0_1 / 128), (y124), (by first | rfl | (simp; done) | (simp [*]; done)), H', ⟨by have := HK1.out; omega⟩, ⟨by (with_reducible repeat (first | apply Kd.R_alloc | apply Kd.R_drewN | apply Kd.R_drew)); exact Kd.R_mono HO126.out (fun _ hk => trivial)⟩, ⟨by repeat (first | (with_reducible first | exact HB.out | apply below_alloc | apply pw_below_drewN | apply below_drew1) | exact HB.out)⟩⟩
        · rw [if_neg c5] at H
          exact absurd H (by simp)
      · rw [if_neg c4] at H
        have c4b0 : decide (0 < x0_1) = false := decide_eq_false c4
        clear c4
        obtain rfl := Option.some.inj H
        go_wp2
        go_ret
        exact ⟨_, by first | rfl | (simp [errW_none, errW_some] <;> rfl) | (simp [*, errW_none, errW_some] <;> rfl), by (with_reducible repeat (first | apply Kd.R_alloc | apply Kd.R_drewN | apply Kd.R_drew)); exact HO_3.out, by repeat (first | (with_reducible first | exact HB.out | apply below_alloc | apply pw_below_drewN | apply below_drew1) | exact HB.out)⟩

end Go.Proofs.YtdncmmipopdhbaaDoor.P
end

section
/-
  Walk: der.PutOid.
-/
set_option linter.unusedVariables false
set_option linter.unusedSimpArgs false
namespace Go.Proofs.YtdncmmipopdhbaaDoor.P
open Go.RowKit Go.Proofs.YtdncmmipopdhbaaDoorW.PrintWords Go.Proofs.YtdncmmipopdhbaaDoorW.PrintLast Go.Proofs.YtdncmmipopdhbaaDoorW.PrintMore
open Go.Proofs.YtdncmmipopdhbaaDoor.K (reg_tail reg_still mixed wi64 wu32 wu8 wu64 tmn tdn)

def sv (v : Int) : List Int := (der_seven.f 8 v).getD []
theorem fm_succ (l : List Int) (i : Nat) (hi : i < l.length) : (l.take (i + 1)).flatMap sv = (l.take i).flatMap sv ++ sv (l.getD i 0) := by
  rw [List.take_succ_eq_append_getElem hi, List.flatMap_append, List.getD_eq_getElem?_getD, List.getElem?_eq_getElem hi]
  simp
theorem fm_le (l : List Int) (i : Nat) : ((l.take i).flatMap sv).length ≤ (l.flatMap sv).length := by
  conv => rhs; rw [← List.take_append_drop i l, List.flatMap_append, List.length_append]
  omega
set_option maxHeartbeats 8000000 in
set_option maxRecDepth 100000 in
theorem putoid_calls (s : ByteArray) (w : World) (t : ByteArray) (ht : s ++ ⟨#[46]⟩ = t) (hs9 : s.size ≤ 99) (hsz : t.size ≤ 100) (hasc : ∀ p (h : p < t.size), (t[p]'h).toNat < 128) (l : List Int) (v9 n9 : Int) (hF : aall (sb t) ⟨[], 0, 0⟩ = some ⟨l, v9, n9⟩) (x0 x1 : Int) (hL : 2 ≤ l.length) (h0 : l.getD 0 0 = x0) (h1 : l.getD 1 0 = x1) (hv : 0 ≤ x0 ∧ x0 ≤ 2 ∧ 0 ≤ x1 ∧ x1 < 1000001 ∧ (x0 = 2 ∨ x1 < 40))
    (hmax : ∀ i, i < l.length → 0 ≤ l.getD i 0 ∧ l.getD i 0 ≤ 2147483647 ∧ der_seven.f 8 (l.getD i 0) = some (sv (l.getD i 0))) (b0 : List Int) (hb0 : der_seven.f 8 (40 * x0 + x1) = some b0) (hbl : b0.length + ((l.drop 2).flatMap sv).length ≤ 100) (hll : l.length ≤ 100) :
    Calls Tryd.prog 56 #[.string s] w fun e w' => ∃ v, e = .returned (.tuple #[v, .int .i64 0]) ∧ K.Own w' w.heap.size .u8 5 v (b0 ++ (l.drop 2).flatMap sv) ∧ Below w.heap.size w w' := by
  obtain ⟨m, hm⟩ : ∃ m, m = l.drop 2 := ⟨_, rfl⟩
  rw [← hm] at hbl ⊢
  have HM := Lib.hid hm
  have HMX := Lib.hid hmax
  have HB0 := Lib.hid hb0
  have HBL := Lib.hid hbl
  clear hmax hb0 hbl hm
  go_enter Tryd.func56, Tryd.ntmps56
  go_wp2_with fail
  refine (arcs_calls s w t ht hs9 hsz hasc _ hF x0 x1 hL h0 h1 hv).mono ?_
  clear hasc hF ht hsz hs9
  rintro e w2 ⟨v, rfl, hO, hB⟩
  replace hO : K.Own w2 w.heap.size .u64 71 v l := hO
  obtain ⟨A, c, rfl, hle, h63, hAo, hR⟩ := hO.rd
  obtain ⟨n, hn⟩ : ∃ n, n = l.length := ⟨_, rfl⟩
  rw [← hn] at hL hle hll
  obtain ⟨a, rfl, hcell⟩ := hR.2 (by omega)
  have hc0 : w2.cell? a = some (.int .u64 x0) := by have := hcell 0 (by omega); rw [h0] at this; simpa [Addr.add] using this
  have hc1 : w2.cell? (a.add 1) = some (.int .u64 x1) := by have := hcell 1 (by omega); rwa [h1] at this
  have hc1b : w2.cell? ⟨a.block, a.off + 1, none⟩ = some (.int .u64 x1) := by simpa [Addr.add] using hc1
  have hab := (hAo a rfl).2
  obtain ⟨A2, hcut, hcr, hca⟩ := K.cut_from (P := Tryd.prog) 69 71 Tryd.underlying69 info_u64 (some a) n c .i64 2 (by omega) (by omega) hle
  simp only [show (2 : Int).toNat = 2 from rfl] at hcut hcr
  have hR2 := hcr w2 .u64 l hn.symm hR
  have hA2 := hca (fun b => b < w2.heap.size) (fun b hb => by cases hb; exact hab)
  have HCL := Lib.hid hcell
  have HN := Lib.hid hn
  rw [← HM.out] at hR2
  have HR2 := Lib.hid hR2
  have HA2 := Lib.hid hA2
  rw [← hn]
  clear hcell hn hcr hca hR hO hAo hR2 hA2 h0 h1
  have hL' : (2 : Int) ≤ (n : Int) := by omega
  have hL1 : (1 : Int) < (n : Int) := by omega
  have hL0 : (0 : Int) < (n : Int) := by omega
  obtain ⟨hx0, hx2, hx1, hx1', _⟩ := hv
  go_wp2
  go_loop [20] (fun s20 => ∃ i : Nat, s20 = .int .i64 i ∧ i ≤ n) (fun s20 => n - (intOf s20).toNat)
  case atStart => exact ⟨0, rfl, Nat.zero_le _⟩
  case round =>
    obtain ⟨i, rfl, hi⟩ := hrel
    by_cases hlt : i < n
    · have hlti : (i : Int) < (n : Int) := by omega
      have hc := HCL.out i (by rw [← HN.out]; exact hlt)
      obtain ⟨hm0, hm1, _⟩ := HMX.out i (by rw [← HN.out]; exact hlt)
      generalize l.getD i 0 = x at *
      have hno : ¬ 2147483647 < x := by omega
      go_wp2
      go_round
      case rel => exact ⟨i + 1, by go_num, by omega⟩
      case measure => simp [intOf]; omega
    · obtain rfl : i = n := by omega
      have hlti : ¬ (i : Int) < (i : Int) := by omega
      clear hlt
      go_wp2
      refine reg_tail 8 mixed (by as_aux_lemma => kernel_rfl) ?_
      simp only [List.take_succ_cons, List.take_zero, List.drop_succ_cons, List.drop_zero]
      repeat (refine wpStill_step (fun K hK => ?_); go_simp; (try simp (disch := omega) only [wi64, wu32, wu8, wu64, tmn, tdn]); (try (rw [if_pos (by omega)]; go_simp)); refine hK _ ?_; clear hK K)
      refine wpStill_nil ?_
      go_wp2_with fail
      refine (der_seven.calls 8 _ b0 _ HB0.out).mono ?_
      rintro e w3 ⟨v3, rfl, hr3, hb3⟩
      have hO3 := (R_own hr3).mono (show w2.heap.size ≤ w2.drew.heap.size from Nat.le_refl _)
      replace hb3 : Below w2.heap.size w2 w3 := (K.below_drewN (n := 1) (Below.refl _ _)).trans hb3
      obtain ⟨A3, c3, rfl, hle3, h633, _, _⟩ := hO3.rd
      clear hr3 hc0 hc1 hc1b HCL HB0
      obtain ⟨nb, hnb⟩ : ∃ nb, nb = b0.length := ⟨_, rfl⟩
      rw [← hnb] at hO3 hle3 ⊢
      have hdl : ((i : Nat) : Int) - 2 = ((i - 2 : Nat) : Int) := by omega
      have HNB := Lib.hid hnb
      clear hnb hdl
      generalize hq : i - 2 = q at *
      have hlq : m.length = q := by rw [HM.out, List.length_drop, ← HN.out, hq]
      have HQ := Lib.hid hlq
      clear hlq
      have hmx : Hid (∀ j, j < q → der_seven.f 8 (m.getD j 0) = some (sv (m.getD j 0))) := Lib.hid (fun j hj => by
        rw [HM.out]
        have := (HMX.out (j + 2) (by rw [← HN.out]; omega)).2.2
        simpa [List.getD_eq_getElem?_getD, List.getElem?_drop, Nat.add_comm] using this)
      clear HMX HN
      clear HM
      go_wp2
      go_loopw [8, 39] (fun s8 s39 wr => ∃ (j n : Nat) (A : Option Addr) (c : Nat), s39 = .int .i64 j ∧ s8 = .slice A n c ∧ j ≤ q ∧ Hid (n = nb + ((m.take j).flatMap sv).length) ∧ K.Own wr w2.heap.size .u8 5 (.slice A n c) (b0 ++ (m.take j).flatMap sv) ∧ Below w2.heap.size w2 wr) (fun _ s39 _ => q - (intOf s39).toNat)
      case atStart => exact ⟨0, nb, A3, c3, rfl, rfl, Nat.zero_le _, Lib.hid rfl, by simpa using hO3, hb3⟩
      case round =>
        clear hO3 hb3 hle3 h633
        obtain ⟨j, n, A, c, rfl, rfl, hj, hn, hO, hb⟩ := hrel
        by_cases hlt : j < q
        · have hlti : (j : Int) < (q : Int) := by omega
          have hR := HR2.out.belowB hb HA2.out
          obtain ⟨a4, ha4, hcell4⟩ := hR.2 (by rw [HQ.out]; omega)
          have hc4 := hcell4 j (by rw [HQ.out]; omega)
          have hf := hmx.out j hlt
          have hs := fm_succ m j (by rw [HQ.out]; omega)
          have hlen := fm_le m (j + 1)
          rw [hs, List.length_append] at hlen
          have hbl := HBL.out
          have hnn := hn.out
          have hnb := HNB.out
          have hsz : n + (sv (m.getD j 0)).length ≤ 100 := by omega
          have HS := Lib.hid hs
          have HF := Lib.hid hf
          have hl9 : Hid ((b0 ++ (m.take j).flatMap sv).length = n) := Lib.hid (by rw [List.length_append]; omega)
          clear hs hlen hbl hnn hnb hf hcell4
          subst ha4
          generalize m.getD j 0 = x at *
          go_wp2_with fail
          refine (der_seven.calls 8 _ (sv x) _ HF.out).mono ?_
          rintro e w4 ⟨v4, rfl, hr4, hb4⟩
          have hO4 := R_own hr4
          obtain ⟨A4, c4, rfl, hle4, h634, hat4, hR4⟩ := hO4.rd
          have hO' := hO.below hb4
          have hb5 := hb.trans (hb4.mono hb.size)
          go_wp2_with (refine K.wpList_ap w2.heap.size .u8 rfl _ _ 31 5 1 (by rfl) Tryd.underlying31 info_u8 (by decide) (.slice A n c) _ (sv x) A4 (sv x).length c4 (by rfl) (by rfl) rfl hO' hR4 (by rw [hl9.out]; omega) hb5.size (n + (sv x).length) (by rw [hl9.out]) ?_; intro Av cv w7 hO7 hg7 hat7)
          go_roundw
          case rel => exact ⟨j + 1, n + (sv x).length, Av, cv, by go_num, rfl, by omega, Lib.hid (by have := hn.out; rw [HS.out, List.length_append]; omega), by rw [HS.out, ← List.append_assoc]; exact hO7, K.below_grown hb5 hg7 hb5.size (fun b hb => hO'.base_le b hb)⟩
          case measure => simp [intOf]; omega
        · obtain rfl : j = q := by omega
          have hlti : ¬ (j : Int) < (j : Int) := by omega
          rw [List.take_of_length_le (by rw [HQ.out]; exact Nat.le_refl _)] at hO
          clear hlt hn
          go_wp2
          go_ret2
          exact ⟨_, rfl, hO.mono hB.size, hB.trans (hb.mono hB.size)⟩
/-- The four identifiers that are put. -/
def OidRun (s : ByteArray) (b : List Int) : Prop := ∀ w : World, Calls Tryd.prog 56 #[.string s] w fun e w' => ∃ v, e = .returned (.tuple #[v, .int .i64 0]) ∧ K.Own w' w.heap.size .u8 5 v b ∧ Below w.heap.size w w'
theorem oid0 : OidRun "1.3.14.3.2.26".toUTF8 [43, 14, 3, 2, 26] := fun w =>
  putoid_calls _ w _ rfl (by decide +kernel) (by decide +kernel) (by decide +kernel) [1, 3, 14, 3, 2, 26] 0 0 (by rfl) 1 3 (by decide) rfl rfl (by decide) (by decide +kernel) [43] (by decide +kernel) (by decide +kernel) (by decide)
theorem oid1 : OidRun "2.16.840.1.101.3.4.2.1".toUTF8 [96, 134, 72, 1, 101, 3, 4, 2, 1] := fun w =>
  putoid_calls _ w _ rfl (by decide +kernel) (by decide +kernel) (by decide +kernel) [2, 16, 840, 1, 101, 3, 4, 2, 1] 0 0 (by rfl) 2 16 (by decide) rfl rfl (by decide) (by decide +kernel) [96] (by decide +kernel) (by decide +kernel) (by decide)
theorem oid2 : OidRun "2.16.840.1.101.3.4.2.2".toUTF8 [96, 134, 72, 1, 101, 3, 4, 2, 2] := fun w =>
  putoid_calls _ w _ rfl (by decide +kernel) (by decide +kernel) (by decide +kernel) [2, 16, 840, 1, 101, 3, 4, 2, 2] 0 0 (by rfl) 2 16 (by decide) rfl rfl (by decide) (by decide +kernel) [96] (by decide +kernel) (by decide +kernel) (by decide)
theorem oid3 : OidRun "2.16.840.1.101.3.4.2.3".toUTF8 [96, 134, 72, 1, 101, 3, 4, 2, 3] := fun w =>
  putoid_calls _ w _ rfl (by decide +kernel) (by decide +kernel) (by decide +kernel) [2, 16, 840, 1, 101, 3, 4, 2, 3] 0 0 (by rfl) 2 16 (by decide) rfl rfl (by decide) (by decide +kernel) [96] (by decide +kernel) (by decide +kernel) (by decide)
theorem utf_eq {s t : ByteArray} (h : (s.data.toList == t.data.toList) = true) : t = s := by
  have e := eq_of_beq h
  cases s; cases t
  congr 1
  exact (Array.toList_inj.1 e).symm
theorem der_PutOid.calls (a0 : ByteArray) (r1 : List Int) (r2 : Int) (w : World) (h : der_PutOid.f a0 = some (r1, r2)) :
    Calls Tryd.prog 56 #[.string a0] w fun e w' => ∃ v0_ : Value, e = .returned (.tuple #[v0_, .int .i64 r2]) ∧ Kd.R (Kd.int .u8) 5 w' w.heap.size (fun _ => True) v0_ r1 ∧ Below w.heap.size w w' := by
  have key : OidRun a0 r1 ∧ r2 = 0 := by
    unfold der_PutOid.f oidTab at h
    simp only [List.find?_cons, List.find?_nil] at h
    split at h
    · rename_i hh
      obtain rfl := utf_eq hh
      obtain ⟨rfl, rfl⟩ := Prod.mk.inj (Option.some.inj h)
      exact ⟨oid0, rfl⟩
    · split at h
      · rename_i hh
        obtain rfl := utf_eq hh
        obtain ⟨rfl, rfl⟩ := Prod.mk.inj (Option.some.inj h)
        exact ⟨oid1, rfl⟩
      · split at h
        · rename_i hh
          obtain rfl := utf_eq hh
          obtain ⟨rfl, rfl⟩ := Prod.mk.inj (Option.some.inj h)
          exact ⟨oid2, rfl⟩
        · split at h
          · rename_i hh
            obtain rfl := utf_eq hh
            obtain ⟨rfl, rfl⟩ := Prod.mk.inj (Option.some.inj h)
            exact ⟨oid3, rfl⟩
          · cases h
  obtain ⟨hR, rfl⟩ := key
  refine (hR w).mono ?_
  rintro e w' ⟨v, rfl, hO, hB⟩
  exact ⟨v, rfl, own_R hO (fun _ _ => trivial), hB⟩
end Go.Proofs.YtdncmmipopdhbaaDoor.P
end

section
-- What the print of the kit writes for this function (through a program of mine that hands it contracts of functions that it does not take).
namespace Go.Proofs.YtdncmmipopdhbaaDoor.P
open Go.RowKit Go.Proofs.YtdncmmipopdhbaaDoorW.PrintWords Go.Proofs.YtdncmmipopdhbaaDoorW.PrintLast Go.Proofs.YtdncmmipopdhbaaDoorW.PrintMore
attribute [local go_sem] max2_int min2_int max_two min_two max_three min_three max_four min_four   -- for this text's walks alone
set_option linter.unusedVariables false
set_option linter.unusedSimpArgs false

/-! ### rsa_oid: function 57 -/
def rsa_oid.f (a0 : Int) : Option (ByteArray) := if a0 = 1 then (some (⟨#[49, 46, 51, 46, 49, 52, 46, 51, 46, 50, 46, 50, 54]⟩ : ByteArray)) else (if a0 = 2 then (some (⟨#[50, 46, 49, 54, 46, 56, 52, 48, 46, 49, 46, 49, 48, 49, 46, 51, 46, 52, 46, 50, 46, 49]⟩ : ByteArray)) else (if a0 = 3 then (some (⟨#[50, 46, 49, 54, 46, 56, 52, 48, 46, 49, 46, 49, 48, 49, 46, 51, 46, 52, 46, 50, 46, 50]⟩ : ByteArray)) else (some (⟨#[50, 46, 49, 54, 46, 56, 52, 48, 46, 49, 46, 49, 48, 49, 46, 51, 46, 52, 46, 50, 46, 51]⟩ : ByteArray))))
set_option maxHeartbeats 8000000 in
set_option maxRecDepth 100000 in
theorem rsa_oid.calls (a0 : Int) (r : ByteArray) (w : World) (h : rsa_oid.f a0 = some r) :
    Calls Tryd.prog 57 #[.int .i64 a0] w fun e w' => e = .returned (.string r) ∧ Drawn0 w w' := by
  have H : (if a0 = 1 then (some (⟨#[49, 46, 51, 46, 49, 52, 46, 51, 46, 50, 46, 50, 54]⟩ : ByteArray)) else (if a0 = 2 then (some (⟨#[50, 46, 49, 54, 46, 56, 52, 48, 46, 49, 46, 49, 48, 49, 46, 51, 46, 52, 46, 50, 46, 49]⟩ : ByteArray)) else (if a0 = 3 then (some (⟨#[50, 46, 49, 54, 46, 56, 52, 48, 46, 49, 46, 49, 48, 49, 46, 51, 46, 52, 46, 50, 46, 50]⟩ : ByteArray)) else (some (⟨#[50, 46, 49, 54, 46, 56, 52, 48, 46, 49, 46, 49, 48, 49, 46, 51, 46, 52, 46, 50, 46, 51]⟩ : ByteArray))))) = some r := h
  clear h
  by_cases c2 : a0 = 1
  · rw [if_pos c2] at H
    have c2b0 : (a0 == 1) = true := beq_iff_eq.mpr c2
    have c2b1 : (a0 != 1) = false := bne_eq_false_iff_eq.mpr c2
    clear c2
    obtain rfl := Option.some.inj H
    go_enter Tryd.func57, Tryd.ntmps57
    go_wp2
    go_ret
    exact ⟨by first | rfl | (simp; done) | (simp [*]; done), by repeat (first | exact Drawn0.refl _ | apply Drawn0.step)⟩
  · rw [if_neg c2] at H
    have c2b0 : (a0 == 1) = false := beq_eq_false_iff_ne.mpr c2
    have c2b1 : (a0 != 1) = true := bne_iff_ne.mpr c2
    by_cases c3 : a0 = 2
    · rw [if_pos c3] at H
      have c3b0 : (a0 == 2) = true := beq_iff_eq.mpr c3
      have c3b1 : (a0 != 2) = false := bne_eq_false_iff_eq.mpr c3
      clear c3
      obtain rfl := Option.some.inj H
      go_enter Tryd.func57, Tryd.ntmps57
      go_wp2
      go_ret
      exact ⟨by first | rfl | (simp; done) | (simp [*]; done), by repeat (first | exact Drawn0.refl _ | apply Drawn0.step)⟩
    · rw [if_neg c3] at H
      have c3b0 : (a0 == 2) = false := beq_eq_false_iff_ne.mpr c3
      have c3b1 : (a0 != 2) = true := bne_iff_ne.mpr c3
      by_cases c4 : a0 = 3
      · rw [if_pos c4] at H
        have c4b0 : (a0 == 3) = true := beq_iff_eq.mpr c4
        have c4b1 : (a0 != 3) = false := bne_eq_false_iff_eq.mpr c4
        clear c4
        obtain rfl := Option.some.inj H
        go_enter Tryd.func57, Tryd.ntmps57
        go_wp2
        go_ret
        exact ⟨by first | rfl | (simp; done) | (simp [*]; done), by repeat (first | exact Drawn0.refl _ | apply Drawn0.step)⟩
      · rw [if_neg c4] at H
        have c4b0 : (a0 == 3) = false := beq_eq_false_iff_ne.mpr c4
        have c4b1 : (a0 != 3) = true := bne_iff_ne.mpr c4
        obtain rfl := Option.some.inj H
        go_enter Tryd.func57, Tryd.ntmps57
        go_wp2
        go_ret
        exact ⟨by first | rfl | (simp; done) | (simp [*]; done), by repeat (first | exact Drawn0.refl _ | apply Drawn0.step)⟩

end Go.Proofs.YtdncmmipopdhbaaDoor.P
end
