/-
  Parts of the walks and of the plain laws below the statement (F0, FbitsMul64, FbitsMul, K, Wd, Pg, Rot, W16). Texts named F.. are what the kit's print writes for one function each, through a program of mine that hands it contracts of the functions that it does not take.
-/
import Derived.Test.YtdncmmipopdhbaaDoorProg
import Derived.Below
import Derived.Deep.Draws
import Derived.Deep.AppendLies
import Derived.Maps.AppendAt
import Derived.OwnWalk
import Derived.Laws.BytesArg
import Derived.Laws.MakeOwn
import Derived.Laws.OwnMore
import Derived.Deep.OwnRows
import Derived.Tactics
import Derived.Lib.ConvBytes
import Derived.Laws.Slices
import Derived.WalkKit
import Derived.KernelRfl
import Derived.RowKit3
import Derived.Deep.LoopGhost
import Derived.Deep.QuietTactic
import Derived.BigQuiet
import Derived.WideLaws
import Derived.Deep.DeepCutAuto
import Derived.Deep.CutBlock
import Derived.Deep.RegionHeld3
import Derived.Laws.Rows
import Derived.Lib.AppendStr
import Derived.ArgAppend
import Derived.Laws.IdiomCopy
import Derived.OrdersHeld
import Derived.Laws.BitsLemmas
import Derived.RowKit
import Derived.Test.YtdncmmipopdhbaaDoorWWords
import Derived.Test.YtdncmmipopdhbaaDoorWLast
import Derived.Test.YtdncmmipopdhbaaDoorWTab
import Derived.Test.YtdncmmipopdhbaaDoorWFour
import Derived.Test.YtdncmmipopdhbaaDoorWQPut
import Derived.Test.YtdncmmipopdhbaaDoorWApart
import Derived.Test.YtdncmmipopdhbaaDoorWArr
import Derived.Test.YtdncmmipopdhbaaDoorWZeros
import Derived.Test.YtdncmmipopdhbaaDoorWFoot
import Derived.Test.YtdncmmipopdhbaaDoorWKept
import Derived.Test.YtdncmmipopdhbaaDoorWShare
import Derived.Test.YtdncmmipopdhbaaDoorWN
import Derived.Test.YtdncmmipopdhbaaDoorWFootNe
import Derived.Test.YtdncmmipopdhbaaDoorWAt
import Derived.Test.YtdncmmipopdhbaaDoorWEqStruct
import Derived.Test.YtdncmmipopdhbaaDoorWRepsOne
import Derived.Test.YtdncmmipopdhbaaDoorWInv
import Derived.Test.YtdncmmipopdhbaaDoorWInvWords
import Derived.Test.YtdncmmipopdhbaaDoorWGuard
import Derived.Test.YtdncmmipopdhbaaDoorWNEv
import Derived.Test.YtdncmmipopdhbaaDoorWMore
import Derived.StillTailTactics
import Derived.IntWalk
import Derived.Deep.WholeRow
import Derived.Lib.Hide
import Derived.Outline
section
-- What the print of the kit writes for this function (through a program of mine that hands it contracts of functions that it does not take).
namespace Go.Proofs.YtdncmmipopdhbaaDoor.P
open Go.RowKit Go.Proofs.YtdncmmipopdhbaaDoorW.PrintWords Go.Proofs.YtdncmmipopdhbaaDoorW.PrintLast Go.Proofs.YtdncmmipopdhbaaDoorW.PrintMore
attribute [local go_sem] max2_int min2_int max_two min_two max_three min_three max_four min_four   -- for this text's walks alone
set_option linter.unusedVariables false
set_option linter.unusedSimpArgs false



def errW : Option Int → Value
  | none => .nilIface
  | some c => .iface 0 (.int .i64 c)
theorem errW_none : errW none = .nilIface := rfl
theorem errW_some (c : Int) : errW (some c) = .iface 0 (.int .i64 c) := rfl

theorem info3 : (Tryd.prog.info? 3).map (fun i => (i.zero, i.size, i.bytes)) = some (some (.int .i64 0), 1, 8) := by kernel_rfl
theorem info5 : (Tryd.prog.info? 5).map (fun i => (i.zero, i.size, i.bytes)) = some (some (.int .u8 0), 1, 1) := by kernel_rfl
theorem info22 : (Tryd.prog.info? 22).map (fun i => (i.zero, i.size, i.bytes)) = some (some (.slice none 0 0), 1, 24) := by kernel_rfl
theorem info31 : (Tryd.prog.info? 31).map (fun i => (i.zero, i.size, i.bytes)) = some (some (.slice none 0 0), 1, 24) := by kernel_rfl
theorem info46 : (Tryd.prog.info? 46).map (fun i => (i.zero, i.size, i.bytes)) = some (some (.int .u32 0), 1, 4) := by kernel_rfl
theorem info71 : (Tryd.prog.info? 71).map (fun i => (i.zero, i.size, i.bytes)) = some (some (.int .u64 0), 1, 8) := by kernel_rfl
-- the values' own types
def rd_L2 (xs : List (List Int)) (i : Int) : (List Int) := xs.getD i.toNat ([] : List Int)
theorem at_L2 {w : World} {A : Option Addr} {n : Nat} {xs : List (List Int)} (h : Kd.C (Kd.slice 5 (Kd.int .u8)) w A n xs) (i : Int) (h0 : 0 ≤ i) (h1 : i < n) : ∃ ad A0 c0, A = some ad ∧ w.cell? (ad.add i.toNat) = some (.slice A0 (rd_L2 xs i).length c0) ∧ (rd_L2 xs i).length ≤ c0 ∧ (Kd.int .u8).C w A0 (rd_L2 xs i).length (rd_L2 xs i) := by
  obtain ⟨ad, c, e, _, hK, hc0⟩ := Kd.C_get h ([] : List Int) i h0 h1
  have hc : ∀ j u, c[j]? = some u → w.cell? (ad.add (i.toNat * 1 + j)) = some u := hc0
  obtain ⟨A0, c0, rfl, l0, g0⟩ := hK
  exact ⟨ad, A0, c0, e, by have hq := hc 0 _ rfl; rwa [Nat.mul_one, Nat.add_zero] at hq, l0, g0⟩

def rd_L5 (xs : List (List Int)) (i : Int) : (List Int) := xs.getD i.toNat ([] : List Int)
theorem at_L5 {w : World} {A : Option Addr} {n : Nat} {xs : List (List Int)} (h : Kd.C (Kd.slice 46 (Kd.int .u32)) w A n xs) (i : Int) (h0 : 0 ≤ i) (h1 : i < n) : ∃ ad A0 c0, A = some ad ∧ w.cell? (ad.add i.toNat) = some (.slice A0 (rd_L5 xs i).length c0) ∧ (rd_L5 xs i).length ≤ c0 ∧ (Kd.int .u32).C w A0 (rd_L5 xs i).length (rd_L5 xs i) := by
  obtain ⟨ad, c, e, _, hK, hc0⟩ := Kd.C_get h ([] : List Int) i h0 h1
  have hc : ∀ j u, c[j]? = some u → w.cell? (ad.add (i.toNat * 1 + j)) = some u := hc0
  obtain ⟨A0, c0, rfl, l0, g0⟩ := hK
  exact ⟨ad, A0, c0, e, by have hq := hc 0 _ rfl; rwa [Nat.mul_one, Nat.add_zero] at hq, l0, g0⟩

end Go.Proofs.YtdncmmipopdhbaaDoor.P
end

section
-- What the print of the kit writes for this function (through a program of mine that hands it contracts of functions that it does not take).
namespace Go.Proofs.YtdncmmipopdhbaaDoor.P
open Go.RowKit Go.Proofs.YtdncmmipopdhbaaDoorW.PrintWords Go.Proofs.YtdncmmipopdhbaaDoorW.PrintLast Go.Proofs.YtdncmmipopdhbaaDoorW.PrintMore
attribute [local go_sem] max2_int min2_int max_two min_two max_three min_three max_four min_four   -- for this text's walks alone
set_option linter.unusedVariables false
set_option linter.unusedSimpArgs false

/-! ### bits_Mul64: function 89 -/
def bits_Mul64.f (a0 : Int) (a1 : Int) : Option (Int × Int) := some (IntKind.u64.wrap ((IntKind.u64.wrap ((IntKind.u64.wrap ((a0 / 4294967296) * (a1 / 4294967296))) + ((IntKind.u64.wrap ((IntKind.u64.wrap ((a0 / 4294967296) * (Go.bits .and .u64 a1 4294967295))) + ((IntKind.u64.wrap ((Go.bits .and .u64 a0 4294967295) * (Go.bits .and .u64 a1 4294967295))) / 4294967296))) / 4294967296))) + ((IntKind.u64.wrap ((Go.bits .and .u64 (IntKind.u64.wrap ((IntKind.u64.wrap ((a0 / 4294967296) * (Go.bits .and .u64 a1 4294967295))) + ((IntKind.u64.wrap ((Go.bits .and .u64 a0 4294967295) * (Go.bits .and .u64 a1 4294967295))) / 4294967296))) 4294967295) + (IntKind.u64.wrap ((Go.bits .and .u64 a0 4294967295) * (a1 / 4294967296))))) / 4294967296)), IntKind.u64.wrap (a0 * a1))
set_option maxHeartbeats 8000000 in
set_option maxRecDepth 100000 in
theorem bits_Mul64.calls (a0 : Int) (a1 : Int) (r1 : Int) (r2 : Int) (w : World) (h : bits_Mul64.f a0 a1 = some (r1, r2)) :
    Calls Tryd.prog 89 #[.int .u64 a0, .int .u64 a1] w fun e w' => e = .returned (.tuple #[.int .u64 r1, .int .u64 r2]) ∧ Drawn0 w w' := by
  have H : (some (IntKind.u64.wrap ((IntKind.u64.wrap ((IntKind.u64.wrap ((a0 / 4294967296) * (a1 / 4294967296))) + ((IntKind.u64.wrap ((IntKind.u64.wrap ((a0 / 4294967296) * (Go.bits .and .u64 a1 4294967295))) + ((IntKind.u64.wrap ((Go.bits .and .u64 a0 4294967295) * (Go.bits .and .u64 a1 4294967295))) / 4294967296))) / 4294967296))) + ((IntKind.u64.wrap ((Go.bits .and .u64 (IntKind.u64.wrap ((IntKind.u64.wrap ((a0 / 4294967296) * (Go.bits .and .u64 a1 4294967295))) + ((IntKind.u64.wrap ((Go.bits .and .u64 a0 4294967295) * (Go.bits .and .u64 a1 4294967295))) / 4294967296))) 4294967295) + (IntKind.u64.wrap ((Go.bits .and .u64 a0 4294967295) * (a1 / 4294967296))))) / 4294967296)), IntKind.u64.wrap (a0 * a1))) = some (r1, r2) := h
  clear h
  simp only [Option.some.injEq, Prod.mk.injEq] at H
  obtain ⟨rfl, rfl⟩ := H
  go_enter Tryd.func89, Tryd.ntmps89
  go_wp2
  go_ret2
  exact ⟨by first | rfl | (simp; done) | (simp [*]; done), by repeat (first | exact Drawn0.refl _ | apply Drawn0.step)⟩

end Go.Proofs.YtdncmmipopdhbaaDoor.P
end

section
-- What the print of the kit writes for this function (through a program of mine that hands it contracts of functions that it does not take).
namespace Go.Proofs.YtdncmmipopdhbaaDoor.P
open Go.RowKit Go.Proofs.YtdncmmipopdhbaaDoorW.PrintWords Go.Proofs.YtdncmmipopdhbaaDoorW.PrintLast Go.Proofs.YtdncmmipopdhbaaDoorW.PrintMore
attribute [local go_sem] max2_int min2_int max_two min_two max_three min_three max_four min_four   -- for this text's walks alone
set_option linter.unusedVariables false
set_option linter.unusedSimpArgs false

/-! ### bits_Mul: function 59 -/
def bits_Mul.f (a0 : Int) (a1 : Int) : Option (Int × Int) := (bits_Mul64.f a0 a1).bind fun bt175 => (some (bt175.1, bt175.2))
set_option maxHeartbeats 8000000 in
set_option maxRecDepth 100000 in
theorem bits_Mul.calls (a0 : Int) (a1 : Int) (r1 : Int) (r2 : Int) (w : World) (h : bits_Mul.f a0 a1 = some (r1, r2)) :
    Calls Tryd.prog 59 #[.int .u64 a0, .int .u64 a1] w fun e w' => e = .returned (.tuple #[.int .u64 r1, .int .u64 r2]) ∧ Drawn0 w w' := by
  have H : ((bits_Mul64.f a0 a1).bind fun bt175 => (some (bt175.1, bt175.2))) = some (r1, r2) := h
  clear h
  replace H := Option.bind_eq_some_iff.mp H
  obtain ⟨⟨t175, t176⟩, A30, H⟩ := H
  replace H : (some (t175, t176)) = some (r1, r2) := H
  have A3 := Aside0.mk A30
  clear A30
  simp only [Option.some.injEq, Prod.mk.injEq] at H
  obtain ⟨rfl, rfl⟩ := H
  go_enter Tryd.func59, Tryd.ntmps59
  go_wp2_with (first | ((with_reducible refine gate_callee (f := 89) rfl ?_); refine goesL_ (some 25) rfl rfl Tryd.func89 (by kernel_rfl) rfl #[.int .u64 a0, .int .u64 a1] rfl (by (try simp only [List.map_toArray, List.map_cons, List.map_nil]); first | done | rfl | (simp only [List.length_drop, List.length_take]; rfl)) ?_; (with_reducible refine (bits_Mul64.calls a0 a1 t175 t176 _ A3.out).mono ?_); rintro e w' ⟨rfl, ⟨nd, rfl⟩⟩; refine ⟨_, rfl, ?_⟩))
  go_ret2
  exact ⟨by first | rfl | (simp; done) | (simp [*]; done), by repeat (first | exact Drawn0.refl _ | apply Drawn0.step)⟩

end Go.Proofs.YtdncmmipopdhbaaDoor.P
end

section
/-
  Small words on memory and numbers, for walks over a Go translation: what a row of numbers in memory reads as, what stays of it when memory grows, wraps that fall away. Plain theorems; no program in sight.
-/
set_option linter.unusedVariables false
set_option linter.unusedSimpArgs false
namespace Go.Proofs.YtdncmmipopdhbaaDoor.K
open Go.RowKit

/-! ### Numbers -/
theorem wi64 (x : Int) (h : -9223372036854775808 ≤ x) (h' : x ≤ 9223372036854775807) : IntKind.i64.wrap x = x := IntWalk.i64_in _ ⟨h, h'⟩
theorem wu8 (x : Int) (h : 0 ≤ x) (h' : x ≤ 255) : IntKind.u8.wrap x = x := by
  show x % 2 ^ 8 = x
  omega
theorem wu32 (x : Int) (h : 0 ≤ x) (h' : x ≤ 4294967295) : IntKind.u32.wrap x = x := by
  show x % 2 ^ 32 = x
  omega
theorem wu64 (x : Int) (h : 0 ≤ x) (h' : x ≤ 18446744073709551615) : IntKind.u64.wrap x = x := by
  show x % 2 ^ 64 = x
  omega

theorem tmn (a b : Int) (h : 0 ≤ a) : a.tmod b = a % b := Int.tmod_eq_emod_of_nonneg h
theorem tdn (a b : Int) (h : 0 ≤ a) : a.tdiv b = a / b := Int.tdiv_eq_ediv_of_nonneg h

/-- Element i of a row. -/
def rd (l : List Int) (i : Int) : Int := l.getD i.toNat 0
theorem rd_nat (l : List Int) (i : Nat) : rd l (i : Int) = l.getD i 0 := by simp [rd]
def nums (k : IntKind) (l : List Int) : List Value := l.map fun x => .int k x
@[simp] theorem nums_length (k : IntKind) (l : List Int) : (nums k l).length = l.length := by simp [nums]
theorem nums_get (k : IntKind) (l : List Int) (i : Nat) (h : i < l.length) : (nums k l)[i]? = some (.int k (l.getD i 0)) := by
  simp [nums, h]
theorem nums_set (k : IntKind) (l : List Int) (i : Nat) (v : Int) : (nums k l).set i (.int k v) = nums k (l.set i v) := by simp [nums]
theorem nums_append (k : IntKind) (a b : List Int) : nums k (a ++ b) = nums k a ++ nums k b := by simp [nums]
theorem nums_take (k : IntKind) (a : List Int) (n : Nat) : (nums k a).take n = nums k (a.take n) := by simp [nums]

/-! ### Blocks -/
theorem blk_lt {w : World} {b : Nat} {o : Obj} (h : w.heap[b]? = some o) : b < w.heap.size := by
  rcases Nat.lt_or_ge b w.heap.size with h' | h'
  · exact h'
  · simp [Array.getElem?_eq_none h'] at h
theorem blk_cell {w : World} {b : Nat} {c : Array Value} {T : Nat} {fr : Nat × Nat} (h : w.heap[b]? = some (.cells c T fr)) (i : Nat) : w.cell? ⟨b, i, none⟩ = c[i]? := by
  simp [World.cell?, h]
theorem blk_free {w : World} {b : Nat} {c : Array Value} {T : Nat} (h : w.heap[b]? = some (.cells c T (0, 0))) (i : Nat) : w.frozen? ⟨b, i, none⟩ = false := by
  simp [World.frozen?, h]
theorem blk_set {w : World} {b : Nat} {c : Array Value} {T : Nat} {fr : Nat × Nat} (h : w.heap[b]? = some (.cells c T fr)) (i : Nat) (u : Value) : (w.setCell ⟨b, i, none⟩ u).heap[b]? = some (.cells (c.setIfInBounds i u) T fr) := by
  have hlt := blk_lt h
  have h' : w.heap[b] = .cells c T fr := by simpa [Array.getElem?_eq_getElem hlt] using h
  show (w.heap.modify b _)[b]? = _
  rw [Array.getElem?_eq_getElem (by simpa using hlt), Array.getElem_modify_self, h']
  rfl
theorem blk_other {w : World} {b : Nat} {o : Obj} (h : w.heap[b]? = some o) {p : Addr} (hp : b ≠ p.block) (u : Value) : (w.setCell p u).heap[b]? = some o := (Below.heap_setCell w p u b hp).trans h
theorem blk_alloc {w : World} {b : Nat} {o : Obj} (h : w.heap[b]? = some o) (o' : Obj) : (w.alloc o').heap[b]? = some o := (Below.heap_alloc w o' b (blk_lt h)).trans h
theorem blk_below {w w' : World} {B b : Nat} {o : Obj} (h : w.heap[b]? = some o) (hb : Below B w w') (hlt : b < B) : w'.heap[b]? = some o := (hb.block b hlt).trans h
theorem blk_grown {w w' : World} {row : Option Nat} {b : Nat} {o : Obj} (h : w.heap[b]? = some o) (hg : w.grownBy w' row) (hne : some b ≠ row) : w'.heap[b]? = some o := (hg.block b (blk_lt h) hne).trans h

/-! ### What is below -/
theorem below_drewN {B : Nat} {w W : World} (h : Below B w W) (n : Nat) : Below B w (W.drewN n) := ⟨h.os, h.tape, h.output, h.size, h.block⟩
theorem below_alloc {w W : World} (h : Below w.heap.size w W) (o : Obj) : Below w.heap.size w (W.alloc o) := h.alloc h.size o
/-- Two stretches, one behind the other. -/
theorem below_then {B : Nat} {w w1 w2 : World} (h : Below B w w1) (k : Below w1.heap.size w1 w2) (hB : B ≤ w.heap.size) : Below B w w2 :=
  h.trans (k.mono (Nat.le_trans hB h.size))
theorem cell_below {w w1 : World} (h : Below w.heap.size w w1) {a : Addr} {v : Value} (hc : w.cell? a = some v) : w1.cell? a = some v := (h.cell (World.block_lt_of_cell? w a hc)).trans hc

theorem cell_other {w : World} {a : Addr} {v : Value} (h : w.cell? a = some v) {p : Addr} (hne : a.block ≠ p.block) (u : Value) : (w.setCell p u).cell? a = some v := by
  rw [World.cell?_setCell_other w p a u (fun e => hne (by rw [e]))]; exact h

/-! ### An array of numbers in a block of its own -/
structure Arr (w : World) (b : Nat) (k : IntKind) (T : Nat) (l : List Int) : Prop where
  out : w.heap[b]? = some (.cells (nums k l).toArray T (0, 0))
section
variable {w w' : World} {b : Nat} {k : IntKind} {T : Nat} {l : List Int}
theorem Arr.lt (h : Arr w b k T l) : b < w.heap.size := blk_lt h.out
theorem Arr.cell (h : Arr w b k T l) (i : Nat) (hi : i < l.length) : w.cell? ⟨b, i, none⟩ = some (.int k (l.getD i 0)) := by
  rw [blk_cell h.out, List.getElem?_toArray, nums_get k l i hi]
theorem Arr.cellI (h : Arr w b k T l) (i : Int) (h0 : 0 ≤ i) (hi : i < l.length) : w.cell? ⟨b, i.toNat, none⟩ = some (.int k (rd l i)) := h.cell _ (by omega)
theorem Arr.free (h : Arr w b k T l) (i : Nat) : w.frozen? ⟨b, i, none⟩ = false := blk_free h.out i
theorem Arr.set (h : Arr w b k T l) (i : Nat) (v : Int) : Arr (w.setCell ⟨b, i, none⟩ (.int k v)) b k T (l.set i v) :=
  ⟨by rw [blk_set h.out, List.setIfInBounds_toArray, nums_set]⟩
theorem Arr.other (h : Arr w b k T l) {p : Addr} (hp : b ≠ p.block) (u : Value) : Arr (w.setCell p u) b k T l := ⟨blk_other h.out hp u⟩
theorem Arr.alloc (h : Arr w b k T l) (o : Obj) : Arr (w.alloc o) b k T l := ⟨blk_alloc h.out o⟩
theorem Arr.drew (h : Arr w b k T l) : Arr w.drew b k T l := ⟨h.out⟩
theorem Arr.drewN (h : Arr w b k T l) (n : Nat) : Arr (w.drewN n) b k T l := ⟨h.out⟩
theorem Arr.below (h : Arr w b k T l) {B : Nat} (hb : Below B w w') (hlt : b < B) : Arr w' b k T l := ⟨blk_below h.out hb hlt⟩
theorem Arr.grown (h : Arr w b k T l) {row : Option Nat} (hg : w.grownBy w' row) (hne : some b ≠ row) : Arr w' b k T l := ⟨blk_grown h.out hg hne⟩
theorem Arr.new (w : World) (k : IntKind) (T : Nat) (l : List Int) : Arr (w.alloc (.cells (nums k l).toArray T)) w.heap.size k T l := ⟨heap_alloc_new w _⟩
theorem below_setRow {B : Nat} {a w : World} (h : Below B a w) {g : Nat} (hg : B ≤ g) (cs : Array Value) : Below B a (w.setRow g cs) :=
  ⟨h.os, h.tape, h.output, by rw [setRow_size]; exact h.size, fun k hk => (setRow_other w g k cs (by omega)).trans (h.block k hk)⟩
theorem Arr.setRow (h : Arr w b k T l) (l' : List Int) : Arr (w.setRow b (nums k l').toArray) b k T l' := ⟨setRow_heap w b _ _ T _ h.out⟩
theorem Arr.setRow_other (h : Arr w b k T l) {g : Nat} (hg : b ≠ g) (cs : Array Value) : Arr (w.setRow g cs) b k T l := ⟨(Go.setRow_other w g b cs hg).trans h.out⟩
theorem blk_setRow {w : World} {b : Nat} {o : Obj} (h : w.heap[b]? = some o) {g : Nat} (hg : b ≠ g) (cs : Array Value) : (w.setRow g cs).heap[b]? = some o := (Go.setRow_other w g b cs hg).trans h
theorem nums_one (k : IntKind) (l : List Int) : (nums k l).toArray.all (·.oneCell') = true := by simp [nums, Value.oneCell']
theorem nums_size (k : IntKind) (l : List Int) : (nums k l).toArray.size = l.length := by simp
theorem arr_made (w : World) (k : IntKind) (T : Nat) (n : Nat) : Arr (w.alloc (.cells (madeCells #[.int k 0] n) T)) w.heap.size k T (List.replicate n 0) := by
  have e : madeCells #[.int k 0] n = (nums k (List.replicate n 0)).toArray := by
    apply Array.ext
    · simp [madeCells, nums]
    · intro i h1 h2
      simp [madeCells, nums, Nat.mod_one]
  rw [e]
  exact Arr.new w k T _
end

/-! ### A row that is read -/
def Rd (w : World) (k : IntKind) (A : Option Addr) (l : List Int) : Prop :=
  l.length ≤ 9223372036854775807 ∧ (0 < l.length → ∃ a, A = some a ∧ ∀ i : Nat, i < l.length → w.cell? (a.add i) = some (.int k (l.getD i 0)))
section
variable {w w' : World} {k : IntKind} {A : Option Addr} {l : List Int}
theorem Rd.at_ (h : Rd w k A l) (hl : 0 < l.length) : ∃ a, A = some a ∧ ∀ i : Int, 0 ≤ i → i < l.length → w.cell? (a.add i.toNat) = some (.int k (rd l i)) := by
  obtain ⟨a, e, hc⟩ := h.2 hl
  exact ⟨a, e, fun i h0 h1 => hc _ (by omega)⟩
theorem Rd.nil (w : World) (k : IntKind) (A : Option Addr) : Rd w k A [] := ⟨by simp, fun h => by simp at h⟩
theorem Rd.below (h : Rd w k A l) (hb : Below w.heap.size w w') : Rd w' k A l :=
  ⟨h.1, fun hl => let ⟨a, e, hc⟩ := h.2 hl; ⟨a, e, fun i hi => cell_below hb (hc i hi)⟩⟩
theorem Rd.drewN (h : Rd w k A l) (n : Nat) : Rd (w.drewN n) k A l := h
theorem Rd.alloc (h : Rd w k A l) (o : Obj) : Rd (w.alloc o) k A l := h.below (below_alloc (Below.refl _ _) o)
theorem Rd.grown (h : Rd w k A l) {row : Option Nat} (hg : w.grownBy w' row) (hne : ∀ a, A = some a → some a.block ≠ row) : Rd w' k A l :=
  ⟨h.1, fun hl => let ⟨a, e, hc⟩ := h.2 hl; ⟨a, e, fun i hi => hg.cell (hc i hi) (by
    have : (a.add i).block = a.block := by unfold Addr.add; split <;> rfl
    rw [this]; exact hne a e)⟩⟩
/-- The first n of it; and what stands behind. -/
theorem Rd.take (h : Rd w k A l) (n : Nat) : Rd w k A (l.take n) :=
  ⟨by have := h.1; simp; omega, fun hl => let ⟨a, e, hc⟩ := h.2 (by simp at hl; omega); ⟨a, e, fun i hi => by
    have hi' : i < l.length ∧ i < n := by simp at hi; omega
    rw [hc i hi'.1]; simp [List.getD_eq_getElem?_getD, hi'.2]⟩⟩
theorem add_add (a : Addr) (i j : Nat) : (a.add i).add j = a.add (i + j) := by
  unfold Addr.add
  by_cases hi : i = 0 <;> by_cases hj : j = 0 <;> simp_all <;> omega
theorem Rd.drop {a : Addr} (h : Rd w k (some a) l) (n : Nat) : Rd w k (some (a.add n)) (l.drop n) :=
  ⟨by have := h.1; simp; omega, fun hl => by
    obtain ⟨a', e, hc⟩ := h.2 (by simp at hl; omega)
    cases e
    refine ⟨_, rfl, fun i hi => ?_⟩
    rw [add_add, hc (n + i) (by simp at hi; omega)]
    simp [List.getD_eq_getElem?_getD]⟩
theorem add_plain (g j : Nat) : (⟨g, 0, none⟩ : Addr).add j = ⟨g, j, none⟩ := by unfold Addr.add; split <;> simp_all
theorem add_plain' (g i j : Nat) : (⟨g, i, none⟩ : Addr).add j = ⟨g, i + j, none⟩ := by unfold Addr.add; split <;> simp_all
theorem Arr.rd {b T : Nat} (h : Arr w b k T l) (hl : l.length ≤ 9223372036854775807) : Rd w k (some ⟨b, 0, none⟩) l :=
  ⟨hl, fun _ => ⟨_, rfl, fun i hi => by rw [add_plain]; exact h.cell i hi⟩⟩
end

/-! ### A row of the call's own -/
def Own (w : World) (base : Nat) (k : IntKind) (T : Nat) (v : Value) (l : List Int) : Prop := w.ownsRow base T 1 v l.length (nums k l)
section
variable {w w' : World} {base : Nat} {k : IntKind} {T : Nat} {v : Value} {l : List Int}
theorem Own.rd (h : Own w base k T v l) : ∃ A c, v = .slice A l.length c ∧ l.length ≤ c ∧ c ≤ 9223372036854775807 ∧ (∀ a, A = some a → base ≤ a.block ∧ a.block < w.heap.size) ∧ Rd w k A l := by
  rcases h.2 with ⟨rfl, h0⟩ | ⟨g, cap, cur, rfl, hb, hh, hn, hm, hs, ht⟩
  · have : l = [] := List.eq_nil_of_length_eq_zero h0
    subst this
    exact ⟨none, 0, rfl, by simp, by simp, (fun a h => by cases h), Rd.nil _ _ _⟩
  · have hm' : cap ≤ 9223372036854775807 := by simpa [maxLen] using hm
    refine ⟨_, cap, rfl, hn, hm', (fun a h => by cases h; exact ⟨hb, blk_lt hh⟩), by omega, fun _ => ⟨_, rfl, fun i hi => ?_⟩⟩
    rw [add_plain, blk_cell hh]
    have e : (nums k l)[i]? = cur.toList[i]? := by rw [← ht, List.getElem?_take]; simp [hi]
    rw [nums_get k l i hi] at e
    rw [← Array.getElem?_toList]; exact e.symm
theorem Own.nil (w : World) (base : Nat) (k : IntKind) (T : Nat) : Own w base k T (.slice none 0 0) [] := ⟨by simp [nums], .inl ⟨rfl, rfl⟩⟩
theorem Own.mono (h : Own w base k T v l) {base' : Nat} (hb : base' ≤ base) : Own w base' k T v l := by
  refine ⟨h.1, ?_⟩
  rcases h.2 with hn | ⟨g, cap, cur, e, hg, r⟩
  · exact .inl hn
  · exact .inr ⟨g, cap, cur, e, Nat.le_trans hb hg, r⟩
theorem Own.base_le (h : Own w base k T v l) (b : Nat) (hb : v.ownBlock = some b) : base ≤ b := by
  rcases h.2 with ⟨rfl, _⟩ | ⟨g, cap, cur, rfl, hg, _⟩
  · simp [Value.ownBlock] at hb
  · simp [Value.ownBlock] at hb; omega
theorem Own.kept (h : Own w base k T v l) {row : Option Nat} (hg : w.grownBy w' row) (hne : v.ownBlock = none ∨ v.ownBlock ≠ row) : Own w' base k T v l := World.ownsRow.kept h hg hne
theorem grown_of_below {w w1 : World} (h : Below w.heap.size w w1) (row : Option Nat) : w.grownBy w1 row := ⟨h.os, h.tape, h.output, h.size, fun i hi _ => h.block i hi⟩
theorem Own.below (h : Own w base k T v l) (hb : Below w.heap.size w w') : Own w' base k T v l := h.kept (grown_of_below hb none) (by cases v.ownBlock <;> simp)
theorem Own.alloc (h : Own w base k T v l) (o : Obj) : Own (w.alloc o) base k T v l := h.below (below_alloc (Below.refl _ _) o)
theorem Own.drewN (h : Own w base k T v l) (n : Nat) : Own (w.drewN n) base k T v l := h.below (below_drewN (Below.refl _ _) n)
/-- An array's first n are a row. -/
theorem Arr.own {b : Nat} (h : Arr w b k T l) (hb : base ≤ b) (hm : l.length ≤ 9223372036854775807) (n : Nat) (hn : n ≤ l.length) : Own w base k T (.slice (some ⟨b, 0, none⟩) n l.length) (l.take n) := by
  have e : (l.take n).length = n := by simp; omega
  refine ⟨by simp, .inr ⟨b, l.length, _, by rw [e], hb, h.out, by omega, by simpa [maxLen] using hm, by simp, ?_⟩⟩
  rw [e, Nat.mul_one, List.toList_toArray, nums_take]
theorem Arr.own' {b : Nat} (h : Arr w b k T l) (hb : base ≤ b) (hm : l.length ≤ 9223372036854775807) : Own w base k T (.slice (some ⟨b, 0, none⟩) l.length l.length) l := by
  have := h.own hb hm l.length (Nat.le_refl _)
  rwa [List.take_length] at this
end


/-! ### Regions that draw; whole arrays stored -/
section
variable {P : Program}
theorem reg_still {id : Nat} {Q : Exit → Act → World → Prop} {a : Act} {w : World} {l : List Oper} (hm : P.follows .mixedOrders = true) (hB : Region.lexB .any l.toArray = true)
    (h : wpStill P l.toArray w.drew (fun a' => Q .normal a' w.drew) l a) : (Code.region id l.toArray true).wp P Q a w := wp_region_still_lit hm hB h
theorem reg_tail {id : Nat} {Q : Exit → Act → World → Prop} {a : Act} {w : World} {l : List Oper} (n : Nat) (hm : P.follows .mixedOrders = true) (hB : Region.lexTailB .any l.toArray n = true)
    (h : wpStill P l.toArray w.drew (fun a' => wpList P l.toArray Q (l.drop n) a' w.drew) (l.take n) a) : (Code.region id l.toArray true).wp P Q a w := wp_region_still_tail n hm hB h
theorem wpList_store_new {ops : Array Oper} {rest : List Oper} {o : Oper} {a : Act} {w : World} {Q : Exit → Act → World → Prop} (hgd : o.guard = none) (ty : TypeId) (x y : Operand) (ho : o.op = .store ty x y)
    (cells : Array Value) (hx : a.eval x = .pointer (some ⟨w.heap.size, 0, none⟩)) (hy : a.eval y = .agg cells)
    (t : TypeId) (old : Array Value) (hi : (P.info? ty).map (·.size) = some cells.size) (hold : old.size = cells.size) (h1 : cells.all (·.oneCell') = true)
    (h : wpList P ops Q rest (a.put o.dst undef) (w.alloc (.cells cells t))) : wpList P ops Q (o :: rest) a (w.alloc (.cells old t)) :=
  wpList_store_row hgd ty x y ho w.heap.size cells hx hy t old (heap_alloc_new w _) hi hold h1 (by rw [World.setRow_alloc_new]; exact h)
end
end Go.Proofs.YtdncmmipopdhbaaDoor.K
end

section
/-
  Words of 32 and 64 bits: what the walk writes of Go's operations on uint32 and uint64, in bit vectors. Plain theorems; no program in sight.
-/
set_option linter.unusedVariables false
set_option linter.unusedSimpArgs false
namespace Go.Proofs.YtdncmmipopdhbaaDoor.K
open Go.RowKit

/-- A word as the walk's number. -/
def iw {n : Nat} (x : BitVec n) : Int := (x.toNat : Int)
theorem iw_nonneg {n : Nat} (x : BitVec n) : 0 ≤ iw x := by unfold iw; omega
theorem iw_lt32 (x : BitVec 32) : iw x ≤ 4294967295 := by have := x.isLt; unfold iw; omega
theorem iw_lt64 (x : BitVec 64) : iw x ≤ 18446744073709551615 := by have := x.isLt; unfold iw; omega
theorem iw_inj {n : Nat} {x y : BitVec n} (h : iw x = iw y) : x = y := by
  apply BitVec.eq_of_toNat_eq
  unfold iw at h
  omega
theorem ofInt_iw {n : Nat} (x : BitVec n) : BitVec.ofInt n (iw x) = x := by
  apply BitVec.eq_of_toNat_eq
  have := x.isLt
  rw [BitVec.toNat_ofInt]
  unfold iw
  have e : ((x.toNat : Int) % (2 ^ n : Nat)) = x.toNat := by
    rw [Int.emod_eq_of_lt (by omega) (by exact_mod_cast this)]
  omega
theorem iw_ofNat (n m : Nat) : iw (BitVec.ofNat n m) = ((m % 2 ^ n : Nat) : Int) := by simp [iw]
theorem wrap32_iw (x : BitVec 32) : IntKind.u32.wrap (iw x) = iw x := wu32 _ (iw_nonneg x) (iw_lt32 x)
theorem wrap64_iw (x : BitVec 64) : IntKind.u64.wrap (iw x) = iw x := wu64 _ (iw_nonneg x) (iw_lt64 x)
theorem iw_or32 (x y : BitVec 32) : bits .or .u32 (iw x) (iw y) = iw (x ||| y) := by
  show IntKind.u32.wrap ((BitVec.ofInt 32 (iw x) ||| BitVec.ofInt 32 (iw y)).toNat : Int) = _
  rw [ofInt_iw, ofInt_iw]; exact wrap32_iw _
theorem iw_and32 (x y : BitVec 32) : bits .and .u32 (iw x) (iw y) = iw (x &&& y) := by
  show IntKind.u32.wrap ((BitVec.ofInt 32 (iw x) &&& BitVec.ofInt 32 (iw y)).toNat : Int) = _
  rw [ofInt_iw, ofInt_iw]; exact wrap32_iw _
theorem iw_xor32 (x y : BitVec 32) : bits .xor .u32 (iw x) (iw y) = iw (x ^^^ y) := by
  show IntKind.u32.wrap ((BitVec.ofInt 32 (iw x) ^^^ BitVec.ofInt 32 (iw y)).toNat : Int) = _
  rw [ofInt_iw, ofInt_iw]; exact wrap32_iw _
theorem iw_or64 (x y : BitVec 64) : bits .or .u64 (iw x) (iw y) = iw (x ||| y) := by
  show IntKind.u64.wrap ((BitVec.ofInt 64 (iw x) ||| BitVec.ofInt 64 (iw y)).toNat : Int) = _
  rw [ofInt_iw, ofInt_iw]; exact wrap64_iw _
theorem iw_and64 (x y : BitVec 64) : bits .and .u64 (iw x) (iw y) = iw (x &&& y) := by
  show IntKind.u64.wrap ((BitVec.ofInt 64 (iw x) &&& BitVec.ofInt 64 (iw y)).toNat : Int) = _
  rw [ofInt_iw, ofInt_iw]; exact wrap64_iw _
theorem iw_xor64 (x y : BitVec 64) : bits .xor .u64 (iw x) (iw y) = iw (x ^^^ y) := by
  show IntKind.u64.wrap ((BitVec.ofInt 64 (iw x) ^^^ BitVec.ofInt 64 (iw y)).toNat : Int) = _
  rw [ofInt_iw, ofInt_iw]; exact wrap64_iw _
theorem iw_add32 (x y : BitVec 32) : (iw x + iw y) % 4294967296 = iw (x + y) := by
  unfold iw; rw [BitVec.toNat_add]; omega
theorem iw_add32w (x y : BitVec 32) : IntKind.u32.wrap (iw x + iw y) = iw (x + y) := iw_add32 x y
theorem iw_add64w (x y : BitVec 64) : IntKind.u64.wrap (iw x + iw y) = iw (x + y) := by
  unfold iw; rw [BitVec.toNat_add]; show _ % 2 ^ 64 = _; omega
theorem iw_add64 (x y : BitVec 64) : (iw x + iw y) % 18446744073709551616 = iw (x + y) := by
  unfold iw; rw [BitVec.toNat_add]; omega
theorem iw_shl32 (x : BitVec 32) (k : Nat) : (iw x * 2 ^ k) % 4294967296 = iw (x <<< k) := by
  unfold iw
  rw [BitVec.toNat_shiftLeft, Nat.shiftLeft_eq]
  simp only [Int.natCast_emod, Int.natCast_mul, Int.natCast_pow]
  rfl
theorem iw_shl64 (x : BitVec 64) (k : Nat) : (iw x * 2 ^ k) % 18446744073709551616 = iw (x <<< k) := by
  unfold iw
  rw [BitVec.toNat_shiftLeft, Nat.shiftLeft_eq]
  simp only [Int.natCast_emod, Int.natCast_mul, Int.natCast_pow]
  rfl
theorem iw_shr {n : Nat} (x : BitVec n) (k : Nat) : iw x / 2 ^ k = iw (x >>> k) := by
  unfold iw
  rw [BitVec.toNat_ushiftRight, Nat.shiftRight_eq_div_pow]
  push_cast
  rfl
theorem iw_rotl32 (x : BitVec 32) (k : Nat) (h : k < 32) : x <<< k ||| x >>> (32 - k) = x.rotateLeft k := by
  rw [BitVec.rotateLeft_def, Nat.mod_eq_of_lt h]
theorem iw_rotl64 (x : BitVec 64) (k : Nat) (h : k < 64) : x <<< k ||| x >>> (64 - k) = x.rotateLeft k := by
  rw [BitVec.rotateLeft_def, Nat.mod_eq_of_lt h]

theorem iw_shl8_64w (x : BitVec 64) : IntKind.u64.wrap (iw x * 256) = iw (x <<< 8) := iw_shl64 x 8
theorem iw_shl8_64 (x : BitVec 64) : (iw x * 256) % 18446744073709551616 = iw (x <<< 8) := iw_shl64 x 8
theorem iw_cast64 (b : BitVec 8) : iw b % 18446744073709551616 = iw (b.setWidth 64) := by
  unfold iw
  rw [BitVec.toNat_setWidth]
  have := b.isLt
  omega
theorem iw_cast64w (b : BitVec 8) : IntKind.u64.wrap (iw b) = iw (b.setWidth 64) := iw_cast64 b
/-! ### Rows of words -/
def iws {n : Nat} (l : List (BitVec n)) : List Int := l.map iw
@[simp] theorem iws_length {n : Nat} (l : List (BitVec n)) : (iws l).length = l.length := by simp [iws]
theorem iws_getD {n : Nat} (l : List (BitVec n)) (i : Nat) : (iws l).getD i 0 = iw (l.getD i 0#n) := by
  simp only [iws, List.getD_eq_getElem?_getD, List.getElem?_map]
  cases l[i]? <;> simp [iw]
theorem iws_set {n : Nat} (l : List (BitVec n)) (i : Nat) (v : BitVec n) : (iws l).set i (iw v) = iws (l.set i v) := by simp [iws]
theorem iws_rd {n : Nat} (l : List (BitVec n)) (i : Int) : rd (iws l) i = iw (l.getD i.toNat 0#n) := iws_getD l _
/-- A row of numbers that are in range is a row of words. -/
theorem iws_of (l : List Int) (n : Nat) (h : ∀ x ∈ l, 0 ≤ x ∧ x < 2 ^ n) : iws (l.map (BitVec.ofInt n)) = l := by
  unfold iws
  rw [List.map_map]
  conv => rhs; rw [← List.map_id l]
  apply List.map_congr_left
  intro x hx
  obtain ⟨h0, h1⟩ := h x hx
  show ((BitVec.ofInt n x).toNat : Int) = x
  rw [BitVec.toNat_ofInt]
  have : x % ((2 ^ n : Nat) : Int) = x := Int.emod_eq_of_lt h0 (by exact_mod_cast h1)
  omega
theorem Arr.cellN {w : World} {b T : Nat} {k : IntKind} {n : Nat} {xs : List (BitVec n)} (h : Arr w b k T (iws xs)) (m : Nat) (hm : m < xs.length) :
    w.cell? ⟨b, m, none⟩ = some (.int k (iw (xs[m]?.getD 0#n))) := by
  rw [← List.getD_eq_getElem?_getD, ← iws_getD]
  exact h.cell m (by simpa using hm)
theorem Arr.cellW {w : World} {b T : Nat} {k : IntKind} {n : Nat} {xs : List (BitVec n)} (h : Arr w b k T (iws xs)) (i : Int) (m : Nat) (e : i = m) (hm : m < xs.length) :
    w.cell? ⟨b, i.toNat, none⟩ = some (.int k (iw (xs[m]?.getD 0#n))) := by
  rw [← List.getD_eq_getElem?_getD]
  subst e
  have := h.cell m (by simpa using hm)
  rw [iws_getD] at this
  simpa using this
end Go.Proofs.YtdncmmipopdhbaaDoor.K
end

section
/-
  What is asked of the program again and again, once.
-/
namespace Go.Proofs.YtdncmmipopdhbaaDoor.K
theorem mixed : Tryd.prog.follows .mixedOrders = true := by kernel_rfl
end Go.Proofs.YtdncmmipopdhbaaDoor.K
end

section
/-
  Walks: math/bits.RotateLeft32, RotateLeft64; digest.turns, digest.wturns.
-/
set_option linter.unusedVariables false
set_option linter.unusedSimpArgs false
namespace Go.Proofs.YtdncmmipopdhbaaDoor.Sha
open Go.RowKit Go.Proofs.YtdncmmipopdhbaaDoor.K
attribute [local go_sem] iw_or32 iw_xor32 iw_and32 iw_or64 iw_xor64 iw_and64 iw_add32 iw_add64 iw_shl32 iw_shl64 iw_shr

theorem count32 : ∀ i : Fin 32, 0 < i.val → bits .and .u64 (IntKind.u64.wrap (-(i.val : Int))) 31 = ((32 - i.val : Nat) : Int) := by decide +kernel
theorem count32' : ∀ i : Fin 32, bits .and .u64 (IntKind.u64.wrap (i.val : Int)) 31 = (i.val : Int) := by decide +kernel
theorem count64 : ∀ i : Fin 64, 0 < i.val → bits .and .u64 (IntKind.u64.wrap (-(i.val : Int))) 63 = ((64 - i.val : Nat) : Int) := by decide +kernel

set_option maxHeartbeats 1000000 in
set_option maxRecDepth 100000 in
/-- Turned left by k, which is r modulo 32. -/
theorem rotl32_calls (x : BitVec 32) (k : Int) (r : Nat) (hr : bits .and .u64 (IntKind.u64.wrap k) 31 = (r : Int)) (h0 : 0 < r) (h1 : r < 32) (w : World) :
    Calls Tryd.prog 117 #[.int .u32 (iw x), .int .i64 k] w fun e w' => e = .returned (.int .u32 (iw (x.rotateLeft r))) ∧ w = w' := by
  have hs : (iw x * 2 ^ r) % 4294967296 = iw (x <<< r) := iw_shl32 x r
  go_enter Tryd.func117, Tryd.ntmps117
  go_wp2
  go_ret
  exact ⟨by rw [← iw_rotl32 x r h1]; rfl, rfl⟩
set_option maxHeartbeats 1000000 in
set_option maxRecDepth 100000 in
theorem rotl64_calls (x : BitVec 64) (k : Int) (r : Nat) (hr : bits .and .u64 (IntKind.u64.wrap k) 63 = (r : Int)) (h0 : 0 < r) (h1 : r < 64) (w : World) :
    Calls Tryd.prog 121 #[.int .u64 (iw x), .int .i64 k] w fun e w' => e = .returned (.int .u64 (iw (x.rotateLeft r))) ∧ w = w' := by
  have hs : (iw x * 2 ^ r) % 18446744073709551616 = iw (x <<< r) := iw_shl64 x r
  have hs' : IntKind.u64.wrap (iw x * 2 ^ r) = iw (x <<< r) := hs
  have hS := Lib.hid hs
  clear hs
  go_enter Tryd.func121, Tryd.ntmps121
  go_wp2
  go_ret
  exact ⟨by rw [← iw_rotl64 x r h1]; rfl, rfl⟩

/-- Two turns right and a third one, or a shift. -/
def turn3 {n : Nat} (x : BitVec n) (i k m : Nat) (moved : Bool) : BitVec n := x.rotateLeft (n - i) ^^^ x.rotateLeft (n - k) ^^^ (if moved then x >>> m else x.rotateLeft (n - m))
set_option maxHeartbeats 1000000 in
set_option maxRecDepth 100000 in
theorem turns_calls (x : BitVec 32) (i k m : Fin 32) (hi : 0 < i.val) (hk : 0 < k.val) (hm : 0 < m.val) (b : Bool) (w : World) :
    Calls Tryd.prog 118 #[.int .u32 (iw x), .int .i64 (i.val : Int), .int .i64 (k.val : Int), .int .i64 (m.val : Int), .bool b] w fun e w' => e = .returned (.int .u32 (iw (turn3 x i.val k.val m.val b))) ∧ w = w' := by
  obtain ⟨i, bi⟩ := i
  obtain ⟨k, bk⟩ := k
  obtain ⟨m, bm⟩ := m
  have ci := Lib.hid (count32 ⟨i, bi⟩ hi)
  have ck := Lib.hid (count32 ⟨k, bk⟩ hk)
  have cm := Lib.hid (count32 ⟨m, bm⟩ hm)
  simp only at hi hk hm ci ck cm ⊢
  cases b
  all_goals
    go_enter Tryd.func118, Tryd.ntmps118
    go_wp2_with fail
    refine (rotl32_calls x _ _ cm.out (by omega) (by omega) _).mono ?_
    rintro e w' ⟨rfl, rfl⟩
    go_wp2_with fail
    refine (rotl32_calls x _ _ ci.out (by omega) (by omega) _).mono ?_
    rintro e w' ⟨rfl, rfl⟩
    go_wp2_with fail
    refine (rotl32_calls x _ _ ck.out (by omega) (by omega) _).mono ?_
    rintro e w' ⟨rfl, rfl⟩
    go_wp2_with fail
    go_ret
    exact ⟨rfl, rfl⟩
set_option maxHeartbeats 1000000 in
set_option maxRecDepth 100000 in
theorem wturns_calls (x : BitVec 64) (i k m : Fin 64) (hi : 0 < i.val) (hk : 0 < k.val) (hm : 0 < m.val) (b : Bool) (w : World) :
    Calls Tryd.prog 119 #[.int .u64 (iw x), .int .i64 (i.val : Int), .int .i64 (k.val : Int), .int .i64 (m.val : Int), .bool b] w fun e w' => e = .returned (.int .u64 (iw (turn3 x i.val k.val m.val b))) ∧ w = w' := by
  obtain ⟨i, bi⟩ := i
  obtain ⟨k, bk⟩ := k
  obtain ⟨m, bm⟩ := m
  have ci := Lib.hid (count64 ⟨i, bi⟩ hi)
  have ck := Lib.hid (count64 ⟨k, bk⟩ hk)
  have cm := Lib.hid (count64 ⟨m, bm⟩ hm)
  simp only at hi hk hm ci ck cm ⊢
  cases b
  all_goals
    go_enter Tryd.func119, Tryd.ntmps119
    go_wp2_with fail
    refine (rotl64_calls x _ _ cm.out (by omega) (by omega) _).mono ?_
    rintro e w' ⟨rfl, rfl⟩
    go_wp2_with fail
    refine (rotl64_calls x _ _ ci.out (by omega) (by omega) _).mono ?_
    rintro e w' ⟨rfl, rfl⟩
    go_wp2_with fail
    refine (rotl64_calls x _ _ ck.out (by omega) (by omega) _).mono ?_
    rintro e w' ⟨rfl, rfl⟩
    go_wp2_with fail
    go_ret
    exact ⟨rfl, rfl⟩
end Go.Proofs.YtdncmmipopdhbaaDoor.Sha
end

section
/-
  Walks over the digest package: words, one, ..
-/
set_option linter.unusedVariables false
set_option linter.unusedSimpArgs false
namespace Go.Proofs.YtdncmmipopdhbaaDoor.Sha
open Go.RowKit Go.Proofs.YtdncmmipopdhbaaDoor.K

/-- A word out of four bytes, as the walk spells it. -/
def wordAt (l : List Int) (n : Nat) : Int :=
  bits .or .u32 (bits .or .u32 (bits .or .u32 (rd l (4 * n) % 4294967296 * 16777216 % 4294967296) (rd l (4 * n + 1) % 4294967296 * 65536 % 4294967296)) (rd l (4 * n + 2) % 4294967296 * 256 % 4294967296)) (rd l (4 * n + 3) % 4294967296)
def wordsTo (l : List Int) (n : Nat) : List Int := (List.range 16).map fun i => if i < n then wordAt l i else 0
theorem wordsTo_zero (l : List Int) : wordsTo l 0 = List.replicate 16 0 := by simp [wordsTo, List.map_const']
theorem wordsTo_length (l : List Int) (n : Nat) : (wordsTo l n).length = 16 := by simp [wordsTo]
theorem wordsTo_succ (l : List Int) (n : Nat) (h : n < 16) : (wordsTo l n).set n (wordAt l n) = wordsTo l (n + 1) := by
  apply List.ext_getElem
  · simp [wordsTo]
  · intro i h1 h2
    have hi : i < 16 := by simpa [wordsTo] using h2
    rw [List.getElem_set]
    by_cases e : n = i
    · subst e; simp [wordsTo]
    · simp only [wordsTo, List.getElem_map, List.getElem_range, e, if_false]
      by_cases c : i < n
      · rw [if_pos c, if_pos (by omega)]
      · rw [if_neg c, if_neg (by omega)]
theorem info_w16 : (Tryd.prog.info? 155).map (·.size) = some 16 := by kernel_rfl

set_option maxHeartbeats 1000000 in
set_option maxRecDepth 100000 in
theorem words_calls (A : Option Addr) (c : Nat) (l : List Int) (w : World) (hr : Rd w .u8 A l) (hl : 64 ≤ l.length) :
    Calls Tryd.prog 116 #[.slice A l.length c] w fun e w' => e = .returned (.agg (nums .u32 (wordsTo l 16)).toArray) ∧ Below w.heap.size w w' := by
  have hll := hr.1
  obtain ⟨A, rfl, hA⟩ := hr.at_ (by omega)
  go_enter Tryd.func116, Tryd.ntmps116
  go_wp2
  go_loopw [3, 4] (fun v i wr => ∃ n : Nat, n ≤ 16 ∧ i = .int .i64 n ∧ Arr wr w.heap.size .u32 155 (wordsTo l n) ∧ Below w.heap.size w wr) (fun _ i _ => 16 - (intOf i).toNat)
  case atStart => exact ⟨0, by omega, rfl, by rw [wordsTo_zero]; exact Arr.new w .u32 _ (List.replicate 16 0), below_alloc (Below.refl _ _) _⟩
  case round =>
    obtain ⟨n, hn, rfl, hb, hbel⟩ := hrel
    by_cases hlt : n < 16
    · have h0 := cell_below hbel (hA (4 * n) (by omega) (by omega))
      have h1 := cell_below hbel (hA (4 * n + 1) (by omega) (by omega))
      have h2 := cell_below hbel (hA (4 * n + 2) (by omega) (by omega))
      have h3 := cell_below hbel (hA (4 * n + 3) (by omega) (by omega))
      have hc := hb.cell n (by rw [wordsTo_length]; exact hlt)
      have hf := hb.free n
      clear hA hr
      go_wp2
      refine reg_tail 35 mixed (by as_aux_lemma => kernel_rfl) ?_
      simp only [List.take_succ_cons, List.take_zero, List.drop_succ_cons, List.drop_zero]
      repeat (refine wpStill_step (fun K hK => ?_); go_simp; (try simp (disch := omega) only [wi64, wu32, wu8, wu64, tmn, tdn]); (try (rw [if_pos (by omega)]; go_simp)); refine hK _ ?_; clear hK K)
      refine wpStill_nil ?_
      go_wp2
      go_roundw
      case rel =>
        refine ⟨n + 1, by omega, by go_num, ?_, ?_⟩
        · rw [← wordsTo_succ l n hlt]; exact (hb.drew).set n _
        · exact (hbel.drew).setCell (Nat.le_refl _) _
      case measure => simp [intOf]; omega
    · obtain rfl : n = 16 := by omega
      clear hA hr hlt
      have hi : (Tryd.prog.info? 155).map (·.size) = some (nums .u32 (wordsTo l 16)).toArray.size := by rw [nums_size, wordsTo_length]; exact info_w16
      go_wp2_with (first | (refine wpList_load_row rfl 155 _ rfl w.heap.size rfl _ _ _ _ hb.out Tryd.underlying155 rfl hi ?_) | (refine wpList_store_row rfl 155 _ _ rfl w.heap.size _ rfl rfl _ _ hb.out hi rfl (nums_one _ _) ?_))
      refine bodyPost_ret (results_cell_row rfl _ _ w.heap.size _ _ _ _ rfl (hb.setRow _).out Tryd.underlying155 rfl hi) rfl ⟨rfl, below_setRow hbel (Nat.le_refl _) _⟩

theorem bits_range32 (op : BinOp) (x y : Int) : 0 ≤ bits op .u32 x y ∧ bits op .u32 x y < 2 ^ 32 := by
  unfold bits
  simp only []
  generalize (match op with | .and => _ | .or => _ | .xor => _ | _ => _ : BitVec IntKind.u32.bits).toNat = m
  show 0 ≤ ((m : Int) % 2 ^ 32) ∧ ((m : Int) % 2 ^ 32) < 2 ^ 32
  omega
def wB (l : List Int) (n : Nat) : BitVec 32 := BitVec.ofInt 32 (wordAt l n)
def wordsB (l : List Int) : List (BitVec 32) := (List.range 16).map (wB l)
theorem wordsB_length (l : List Int) : (wordsB l).length = 16 := by simp [wordsB]
theorem wordsTo_B (l : List Int) : wordsTo l 16 = iws (wordsB l) := by
  have e : wordsTo l 16 = (List.range 16).map (wordAt l) := by
    unfold wordsTo
    apply List.map_congr_left
    intro i hi
    rw [if_pos (List.mem_range.1 hi)]
  have := iws_of (wordsTo l 16) 32 (by
    rw [e]
    intro x hx
    obtain ⟨i, _, rfl⟩ := List.mem_map.1 hx
    exact bits_range32 _ _ _)
  rw [← this, e, List.map_map]
  rfl

end Go.Proofs.YtdncmmipopdhbaaDoor.Sha
end
