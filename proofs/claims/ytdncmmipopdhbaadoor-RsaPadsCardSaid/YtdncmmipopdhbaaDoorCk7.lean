/-
  Parts of the walks and of the plain laws below the statement (Nw). Texts named F.. are what the kit's print writes for one function each, through a program of mine that hands it contracts of the functions that it does not take.
-/
import Derived.Test.YtdncmmipopdhbaaDoorCk6
section
/-
  Walk: digest.New.
-/
set_option linter.unusedVariables false
set_option linter.unusedSimpArgs false
namespace Go.Proofs.YtdncmmipopdhbaaDoor.Sha
open Go.RowKit Go.Proofs.YtdncmmipopdhbaaDoor.K

set_option maxHeartbeats 4000000 in
set_option maxRecDepth 100000 in
theorem new_calls (alg : Int) (h0 : 1 ≤ alg) (h4 : alg ≤ 4) (w : World) :
    Calls Tryd.prog 77 #[.int .i64 alg] w fun e w' => e = .returned (.tuple #[.pointer (some ⟨w.heap.size, 0, none⟩), .int .i64 0]) ∧ HM w' w.heap.size w.heap.size alg [] ∧ Below w.heap.size w w' := by
  obtain rfl | rfl | rfl | rfl : alg = 1 ∨ alg = 2 ∨ alg = 3 ∨ alg = 4 := by omega
  all_goals
    go_enter Tryd.func77, Tryd.ntmps77
    go_wp2
    go_ret2
    have e := state_nil
    refine ⟨rfl, ⟨⟨.slice none 0 0, ?_, by rw [(e _).2]; exact Own.nil _ _ _ _, by simp [Value.ownBlock]⟩⟩, below_alloc (Below.refl _ _) _⟩
    rw [(e _).1]
    exact ⟨by rw [heap_alloc_new]; rfl, rfl, rfl⟩
end Go.Proofs.YtdncmmipopdhbaaDoor.Sha
end
