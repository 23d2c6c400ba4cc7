/-
  Parts of the walks and of the plain laws below the statement (Fchirographref08Pad, XPads, YPads). Texts named F.. are what the kit's print writes for one function each, through a program of mine that hands it contracts of the functions that it does not take.
-/
import Derived.Test.YtdncmmipopdhbaaDoorCp1
import Derived.Test.YtdncmmipopdhbaaDoorCk1
import Derived.Test.YtdncmmipopdhbaaDoorCp4
import Derived.Test.YtdncmmipopdhbaaDoorCk17
section
-- What the print of the kit writes for this function (through a program of mine that hands it contracts of functions that it does not take).
namespace Go.Proofs.YtdncmmipopdhbaaDoor.P
open Go.RowKit Go.Proofs.YtdncmmipopdhbaaDoorW.PrintWords Go.Proofs.YtdncmmipopdhbaaDoorW.PrintLast Go.Proofs.YtdncmmipopdhbaaDoorW.PrintMore
attribute [local go_sem] max2_int min2_int max_two min_two max_three min_three max_four min_four   -- for this text's walks alone
set_option linter.unusedVariables false
set_option linter.unusedSimpArgs false

/-! ### chirographref08_Pad: function 19 -/
mutual
def chirographref08_Pad.j0 : Nat → Int → List Int → Int → Bool → Option (List Int × Int)
  | 0, _, _, _, _ => none
  | k + 1, x0, x1, x2, x23 => if x23 = true then (some (([] : List Int), 1)) else ((chirographref08_Oid.f x0).bind fun t439 => ((chirographref08_OidOf.f k t439).bind fun t440 => ((chirographref08_Prim.f k 5 ([] : List Int)).bind fun t443 => ((chirographref08_Seq.f k 16 (([t440, t443] : List (List Int)))).bind fun t449 => ((chirographref08_Prim.f k 4 x1).bind fun t452 => ((chirographref08_Seq.f k 16 (([t449, t452] : List (List Int)))).bind fun t458 => (if x2 < 11 then (chirographref08_Pad.j1 k x2 t458 true) else (chirographref08_Pad.j1 k x2 t458 (decide ((wrap64 (x2 - 11)) < (t458.length : Int)))))))))))
def chirographref08_Pad.j1 : Nat → Int → List Int → Bool → Option (List Int × Int)
  | 0, _, _, _ => none
  | k + 1, x2, x8, x42 => if x42 = true then (some (([] : List Int), 2)) else (chirographref08_Pad.l0 k x2 x8 (([0, 1] : List Int)))
def chirographref08_Pad.l0 : Nat → Int → List Int → List Int → Option (List Int × Int)
  | 0, _, _, _ => none
  | k + 1, x2, x8, x9 => if (x9.length : Int) < (wrap64 ((wrap64 (x2 - 1)) - (x8.length : Int))) then (if x9.length < 140737488355328 then (chirographref08_Pad.l0 k x2 x8 (x9 ++ [255])) else (none)) else (if x9.length < 140737488355328 then ((some (x9 ++ [0] : List Int)).bind fun y467 => (if y467.length + x8.length < 140737488355328 then (some ((y467 ++ x8), 0)) else (none))) else (none))
end
def chirographref08_Pad.f (k : Nat) (a0 : Int) (l1 : List Int) (a2 : Int) : Option (List Int × Int) := (chirographref02_Size.f a0).bind fun t437 => (if t437 = 0 then (chirographref08_Pad.j0 k a0 l1 a2 true) else ((chirographref02_Size.f a0).bind fun t438 => (if (l1.length : Int) = t438 then (chirographref08_Pad.j0 k a0 l1 a2 (decide (a2 > 2048))) else (chirographref08_Pad.j0 k a0 l1 a2 true))))
theorem chirographref08_Pad.mono_l : ∀ k, (∀ y0 y1 y2 y3, LeO (chirographref08_Pad.j0 k y0 y1 y2 y3) (chirographref08_Pad.j0 (k + 1) y0 y1 y2 y3)) ∧ (∀ y0 y1 y2, LeO (chirographref08_Pad.j1 k y0 y1 y2) (chirographref08_Pad.j1 (k + 1) y0 y1 y2)) ∧ (∀ y0 y1 y2, LeO (chirographref08_Pad.l0 k y0 y1 y2) (chirographref08_Pad.l0 (k + 1) y0 y1 y2))
  | 0 => ⟨fun _ _ _ _ r h => by simp [chirographref08_Pad.j0] at h, fun _ _ _ r h => by simp [chirographref08_Pad.j1] at h, fun _ _ _ r h => by simp [chirographref08_Pad.l0] at h⟩
  | k + 1 => by
    obtain ⟨ih0, ih1, ih2⟩ := chirographref08_Pad.mono_l k
    refine ⟨?_, ?_, ?_⟩
    · intro y0 y1 y2 y3
      unfold chirographref08_Pad.j0
      repeat' first
      | (with_reducible exact ih0 _ _ _ _)
      | (with_reducible exact ih1 _ _ _)
      | (with_reducible exact ih2 _ _ _)
      | (with_reducible exact chirographref08_OidOf.mono _ _)
      | (with_reducible exact chirographref08_Prim.mono _ _ _)
      | (with_reducible exact chirographref08_Seq.mono _ _ _)
      | (with_reducible exact LeO.refl _)
      | (with_reducible exact LeO.none _)
      | (with_reducible refine LeO.ite ?_ ?_)
      | (with_reducible refine LeO.bind ?_ (fun _ => ?_))
      | exact ih0 _ _ _ _
      | exact ih1 _ _ _
      | exact ih2 _ _ _
      | exact chirographref08_OidOf.mono _ _
      | exact chirographref08_Prim.mono _ _ _
      | exact chirographref08_Seq.mono _ _ _
      | exact LeO.none _
      | refine LeO.ite ?_ ?_
      | refine LeO.bind ?_ (fun _ => ?_)
    · intro y0 y1 y2
      unfold chirographref08_Pad.j1
      repeat' first
      | (with_reducible exact ih0 _ _ _ _)
      | (with_reducible exact ih1 _ _ _)
      | (with_reducible exact ih2 _ _ _)
      | (with_reducible exact chirographref08_OidOf.mono _ _)
      | (with_reducible exact chirographref08_Prim.mono _ _ _)
      | (with_reducible exact chirographref08_Seq.mono _ _ _)
      | (with_reducible exact LeO.refl _)
      | (with_reducible exact LeO.none _)
      | (with_reducible refine LeO.ite ?_ ?_)
      | (with_reducible refine LeO.bind ?_ (fun _ => ?_))
      | exact ih0 _ _ _ _
      | exact ih1 _ _ _
      | exact ih2 _ _ _
      | exact chirographref08_OidOf.mono _ _
      | exact chirographref08_Prim.mono _ _ _
      | exact chirographref08_Seq.mono _ _ _
      | exact LeO.none _
      | refine LeO.ite ?_ ?_
      | refine LeO.bind ?_ (fun _ => ?_)
    · intro y0 y1 y2
      unfold chirographref08_Pad.l0
      repeat' first
      | (with_reducible exact ih0 _ _ _ _)
      | (with_reducible exact ih1 _ _ _)
      | (with_reducible exact ih2 _ _ _)
      | (with_reducible exact chirographref08_OidOf.mono _ _)
      | (with_reducible exact chirographref08_Prim.mono _ _ _)
      | (with_reducible exact chirographref08_Seq.mono _ _ _)
      | (with_reducible exact LeO.refl _)
      | (with_reducible exact LeO.none _)
      | (with_reducible refine LeO.ite ?_ ?_)
      | (with_reducible refine LeO.bind ?_ (fun _ => ?_))
      | exact ih0 _ _ _ _
      | exact ih1 _ _ _
      | exact ih2 _ _ _
      | exact chirographref08_OidOf.mono _ _
      | exact chirographref08_Prim.mono _ _ _
      | exact chirographref08_Seq.mono _ _ _
      | exact LeO.none _
      | refine LeO.ite ?_ ?_
      | refine LeO.bind ?_ (fun _ => ?_)
theorem chirographref08_Pad.mono : ∀ a0 a1 a2 k, LeO (chirographref08_Pad.f k a0 a1 a2) (chirographref08_Pad.f (k + 1) a0 a1 a2) := by
  intro a0 a1 a2 k
  obtain ⟨ih0, ih1, ih2⟩ := chirographref08_Pad.mono_l k
  unfold chirographref08_Pad.f
  repeat' first
      | (with_reducible exact ih0 _ _ _ _)
      | (with_reducible exact ih1 _ _ _)
      | (with_reducible exact ih2 _ _ _)
      | (with_reducible exact chirographref08_OidOf.mono _ _)
      | (with_reducible exact chirographref08_Prim.mono _ _ _)
      | (with_reducible exact chirographref08_Seq.mono _ _ _)
      | (with_reducible exact LeO.refl _)
      | (with_reducible exact LeO.none _)
      | (with_reducible refine LeO.ite ?_ ?_)
      | (with_reducible refine LeO.bind ?_ (fun _ => ?_))
      | exact ih0 _ _ _ _
      | exact ih1 _ _ _
      | exact ih2 _ _ _
      | exact chirographref08_OidOf.mono _ _
      | exact chirographref08_Prim.mono _ _ _
      | exact chirographref08_Seq.mono _ _ _
      | exact LeO.none _
      | refine LeO.ite ?_ ?_
      | refine LeO.bind ?_ (fun _ => ?_)
set_option maxHeartbeats 8000000 in
set_option maxRecDepth 100000 in
theorem chirographref08_Pad.calls (k : Nat) (a0 : Int) (A1 : Option Addr) (c1 : Nat) (l1 : List Int) (a2 : Int) (r1 : List Int) (r2 : Int) (w : World) (hr1 : Kd.C (Kd.int .u8) w A1 l1.length l1) (hc1 : l1.length ≤ c1) (h : chirographref08_Pad.f k a0 l1 a2 = some (r1, r2)) :
    Calls Tryd.prog 19 #[.int .i64 a0, .slice A1 l1.length c1, .int .i64 a2] w fun e w' => ∃ v0_ : Value, e = .returned (.tuple #[v0_, .int .i64 r2]) ∧ Kd.R (Kd.int .u8) 5 w' w.heap.size (fun _ => True) v0_ r1 ∧ Below w.heap.size w w' := by
  have HR1 := Aside0.mk hr1
  have HC1 := Aside0.mk hc1
  clear hr1 hc1
  have HB := Aside0.mk (Below.refl w.heap.size w)
  have H : ((chirographref02_Size.f a0).bind fun t437 => (if t437 = 0 then (chirographref08_Pad.j0 k a0 l1 a2 true) else ((chirographref02_Size.f a0).bind fun t438 => (if (l1.length : Int) = t438 then (chirographref08_Pad.j0 k a0 l1 a2 (decide (a2 > 2048))) else (chirographref08_Pad.j0 k a0 l1 a2 true))))) = some (r1, r2) := h
  clear h
  have HC4 := Aside0.mk H
  clear H
  go_enter Tryd.func19, Tryd.ntmps19
  go_upto_region 1 with (fail)
  go_cut [23] (fun v23 wc => ∃ (kq : Nat) (x23_3 : Bool), v23 = .bool x23_3 ∧ Aside0 (chirographref08_Pad.j0 kq a0 l1 a2 x23_3 = some (r1, r2)) ∧ Aside0 (kq ≤ k) ∧ Aside0 (Below w.heap.size w wc))
  case first =>
    have H := HC4.out
    clear HC4
    replace H := Option.bind_eq_some_iff.mp H
    obtain ⟨t437, A50, H⟩ := H
    replace H : (if t437 = 0 then (chirographref08_Pad.j0 k a0 l1 a2 true) else ((chirographref02_Size.f a0).bind fun t438 => (if (l1.length : Int) = t438 then (chirographref08_Pad.j0 k a0 l1 a2 (decide (a2 > 2048))) else (chirographref08_Pad.j0 k a0 l1 a2 true)))) = some (r1, r2) := H
    have A5 := Aside0.mk A50
    clear A50
    by_cases c6 : t437 = 0
    · rw [if_pos c6] at H
      have c6b0 : (t437 == 0) = true := beq_iff_eq.mpr c6
      have c6b1 : (t437 != 0) = false := bne_eq_false_iff_eq.mpr c6
      clear c6
      (first | rw [c6b0] | (simp only [i64_w, i32_w]; rw [c6b0]) | skip)
      have H' := Aside0.mk H
      clear H
      go_wp2_with (first | ((with_reducible refine gate_callee (f := 29) rfl ?_); refine goesL_ (some 11) rfl rfl Tryd.func29 (by kernel_rfl) rfl #[.int .i64 a0] rfl (by (try simp only [List.map_toArray, List.map_cons, List.map_nil]); first | done | rfl | (simp only [List.length_drop, List.length_take]; rfl)) ?_; (with_reducible refine (chirographref02_Size.calls a0 t437 _ A5.out).mono ?_); rintro e w7 ⟨rfl, hb⟩; refine ⟨_, rfl, ?_⟩; have n0_ := Aside0.mk (below_step (by repeat (first | (with_reducible first | exact HB.out | apply below_alloc | apply pw_below_drewN | apply below_drew1) | exact HB.out)) hb); clear HB; have HB := n0_; clear n0_; (try clear hb); (try clear hb2); (try clear hk); (try clear hi)))
      go_meet
      case rel => exact ⟨_, (true), (by first | rfl | (simp; done) | (simp [*]; done)), H', ⟨by first | omega | exact Nat.le_refl _⟩, ⟨by repeat (first | (with_reducible first | exact HB.out | apply below_alloc | apply pw_below_drewN | apply below_drew1) | exact HB.out)⟩⟩
    · rw [if_neg c6] at H
      have c6b0 : (t437 == 0) = false := beq_eq_false_iff_ne.mpr c6
      have c6b1 : (t437 != 0) = true := bne_iff_ne.mpr c6
      (first | rw [c6b0] | (simp only [i64_w, i32_w]; rw [c6b0]) | skip)
      replace H := Option.bind_eq_some_iff.mp H
      obtain ⟨t438, A80, H⟩ := H
      replace H : (if (l1.length : Int) = t438 then (chirographref08_Pad.j0 k a0 l1 a2 (decide (a2 > 2048))) else (chirographref08_Pad.j0 k a0 l1 a2 true)) = some (r1, r2) := H
      have A8 := Aside0.mk A80
      clear A80
      by_cases c9 : (l1.length : Int) = t438
      · rw [if_pos c9] at H
        have c9b0 : ((l1.length : Int) == t438) = true := beq_iff_eq.mpr c9
        have c9b1 : ((l1.length : Int) != t438) = false := bne_eq_false_iff_eq.mpr c9
        clear c9
        have H' := Aside0.mk H
        clear H
        have tk0_ : True := trivial
        go_wp2_with (first | ((with_reducible refine gate_callee (f := 29) rfl ?_); (have z_ := tk0_); clear tk0_; refine goesL_ (some 11) rfl rfl Tryd.func29 (by kernel_rfl) rfl #[.int .i64 a0] rfl (by (try simp only [List.map_toArray, List.map_cons, List.map_nil]); first | done | rfl | (simp only [List.length_drop, List.length_take]; rfl)) ?_; (with_reducible refine (chirographref02_Size.calls a0 t437 _ A5.out).mono ?_); rintro e w10 ⟨rfl, hb⟩; refine ⟨_, rfl, ?_⟩; have n0_ := Aside0.mk (below_step (by repeat (first | (with_reducible first | exact HB.out | apply below_alloc | apply pw_below_drewN | apply below_drew1) | exact HB.out)) hb); clear HB; have HB := n0_; clear n0_; (try clear hb); (try clear hb2); (try clear hk); (try clear hi)) | (go_at_call 29; (with_reducible refine (chirographref02_Size.calls a0 t438 _ A8.out).mono ?_); rintro e w11 ⟨rfl, hb⟩; have n0_ := Aside0.mk (below_step (by repeat (first | (with_reducible first | exact HB.out | apply below_alloc | apply pw_below_drewN | apply below_drew1) | exact HB.out)) hb); clear HB; have HB := n0_; clear n0_; (try clear hb); (try clear hb2); (try clear hk); (try clear hi)))
        go_meet
        case rel => exact ⟨_, (decide (a2 > 2048)), (by first | rfl | (simp; done) | (simp [*]; done)), H', ⟨by first | omega | exact Nat.le_refl _⟩, ⟨by repeat (first | (with_reducible first | exact HB.out | apply below_alloc | apply pw_below_drewN | apply below_drew1) | exact HB.out)⟩⟩
      · rw [if_neg c9] at H
        have c9b0 : ((l1.length : Int) == t438) = false := beq_eq_false_iff_ne.mpr c9
        have c9b1 : ((l1.length : Int) != t438) = true := bne_iff_ne.mpr c9
        have H' := Aside0.mk H
        clear H
        have tk0_ : True := trivial
        go_wp2_with (first | ((with_reducible refine gate_callee (f := 29) rfl ?_); (have z_ := tk0_); clear tk0_; refine goesL_ (some 11) rfl rfl Tryd.func29 (by kernel_rfl) rfl #[.int .i64 a0] rfl (by (try simp only [List.map_toArray, List.map_cons, List.map_nil]); first | done | rfl | (simp only [List.length_drop, List.length_take]; rfl)) ?_; (with_reducible refine (chirographref02_Size.calls a0 t437 _ A5.out).mono ?_); rintro e w12 ⟨rfl, hb⟩; refine ⟨_, rfl, ?_⟩; have n0_ := Aside0.mk (below_step (by repeat (first | (with_reducible first | exact HB.out | apply below_alloc | apply pw_below_drewN | apply below_drew1) | exact HB.out)) hb); clear HB; have HB := n0_; clear n0_; (try clear hb); (try clear hb2); (try clear hk); (try clear hi)) | (go_at_call 29; (with_reducible refine (chirographref02_Size.calls a0 t438 _ A8.out).mono ?_); rintro e w13 ⟨rfl, hb⟩; have n0_ := Aside0.mk (below_step (by repeat (first | (with_reducible first | exact HB.out | apply below_alloc | apply pw_below_drewN | apply below_drew1) | exact HB.out)) hb); clear HB; have HB := n0_; clear n0_; (try clear hb); (try clear hb2); (try clear hk); (try clear hi)))
        go_meet
        case rel => exact ⟨_, (true), (by first | rfl | (simp; done) | (simp [*]; done)), H', ⟨by first | omega | exact Nat.le_refl _⟩, ⟨by repeat (first | (with_reducible first | exact HB.out | apply below_alloc | apply pw_below_drewN | apply below_drew1) | exact HB.out)⟩⟩
  case rest =>
    clear HC4
    try clear c1
    try clear c2
    try clear p2
    try clear c6
    try clear c6b0
    try clear c6b1
    try clear c9
    try clear c9b0
    try clear c9b1
    obtain ⟨kq, x23_3, rfl, HA, HJ3, HB⟩ := hcut
    cases kq with
    | zero => exact absurd HA.out (by simp [chirographref08_Pad.j0])
    | succ kj3 =>
      have H := HA.out
      clear HA
      simp only [chirographref08_Pad.j0] at H
      by_cases c14 : x23_3 = true
      · subst c14
        have H1 : (some (([] : List Int), 1)) = some (r1, r2) := by rw [if_pos rfl] at H; exact H
        clear H
        have H := H1
        clear H1
        simp only [Option.some.injEq, Prod.mk.injEq] at H
        obtain ⟨rfl, rfl⟩ := H
        go_wp2
        go_ret2
        exact ⟨_, by first | rfl | (simp [errW_none, errW_some] <;> rfl) | (simp [*, errW_none, errW_some] <;> rfl), by first | exact Kd.R_nil _ _ _ _ _ | exact Kd.N_nil _ _ _ _ _ | exact Kd.V_nil _ _ _ _ _ | exact Kd.Q_nil _ _ _ _ _ | exact Kd.S_nil _ _ _ _ _, by repeat (first | (with_reducible first | exact HB.out | apply below_alloc | apply pw_below_drewN | apply below_drew1) | exact HB.out)⟩
      · replace c14 := Bool.eq_false_iff.mpr c14
        subst c14
        have H1 : ((chirographref08_Oid.f a0).bind fun t439 => ((chirographref08_OidOf.f kj3 t439).bind fun t440 => ((chirographref08_Prim.f kj3 5 ([] : List Int)).bind fun t443 => ((chirographref08_Seq.f kj3 16 (([t440, t443] : List (List Int)))).bind fun t449 => ((chirographref08_Prim.f kj3 4 l1).bind fun t452 => ((chirographref08_Seq.f kj3 16 (([t449, t452] : List (List Int)))).bind fun t458 => (if a2 < 11 then (chirographref08_Pad.j1 kj3 a2 t458 true) else (chirographref08_Pad.j1 kj3 a2 t458 (decide ((wrap64 (a2 - 11)) < (t458.length : Int))))))))))) = some (r1, r2) := by rw [if_neg (show ¬ (false = true) by decide)] at H; exact H
        clear H
        have H := H1
        clear H1
        replace H := Option.bind_eq_some_iff.mp H
        obtain ⟨t439, A150, H⟩ := H
        replace H : ((chirographref08_OidOf.f kj3 t439).bind fun t440 => ((chirographref08_Prim.f kj3 5 ([] : List Int)).bind fun t443 => ((chirographref08_Seq.f kj3 16 (([t440, t443] : List (List Int)))).bind fun t449 => ((chirographref08_Prim.f kj3 4 l1).bind fun t452 => ((chirographref08_Seq.f kj3 16 (([t449, t452] : List (List Int)))).bind fun t458 => (if a2 < 11 then (chirographref08_Pad.j1 kj3 a2 t458 true) else (chirographref08_Pad.j1 kj3 a2 t458 (decide ((wrap64 (a2 - 11)) < (t458.length : Int)))))))))) = some (r1, r2) := H
        have A15 := Aside0.mk A150
        clear A150
        replace H := Option.bind_eq_some_iff.mp H
        obtain ⟨t440, A160, H⟩ := H
        replace H : ((chirographref08_Prim.f kj3 5 ([] : List Int)).bind fun t443 => ((chirographref08_Seq.f kj3 16 (([t440, t443] : List (List Int)))).bind fun t449 => ((chirographref08_Prim.f kj3 4 l1).bind fun t452 => ((chirographref08_Seq.f kj3 16 (([t449, t452] : List (List Int)))).bind fun t458 => (if a2 < 11 then (chirographref08_Pad.j1 kj3 a2 t458 true) else (chirographref08_Pad.j1 kj3 a2 t458 (decide ((wrap64 (a2 - 11)) < (t458.length : Int))))))))) = some (r1, r2) := H
        have A16 := Aside0.mk A160
        clear A160
        replace H := Option.bind_eq_some_iff.mp H
        obtain ⟨t443, A170, H⟩ := H
        replace H : ((chirographref08_Seq.f kj3 16 (([t440, t443] : List (List Int)))).bind fun t449 => ((chirographref08_Prim.f kj3 4 l1).bind fun t452 => ((chirographref08_Seq.f kj3 16 (([t449, t452] : List (List Int)))).bind fun t458 => (if a2 < 11 then (chirographref08_Pad.j1 kj3 a2 t458 true) else (chirographref08_Pad.j1 kj3 a2 t458 (decide ((wrap64 (a2 - 11)) < (t458.length : Int)))))))) = some (r1, r2) := H
        have A17 := Aside0.mk A170
        clear A170
        obtain ⟨y446, hy446⟩ : ∃ y_ : List (List Int), y_ = (([t440, t443] : List (List Int))) := ⟨_, rfl⟩
        replace H : ((chirographref08_Seq.f kj3 16 y446).bind fun t449 => ((chirographref08_Prim.f kj3 4 l1).bind fun t452 => ((chirographref08_Seq.f kj3 16 (([t449, t452] : List (List Int)))).bind fun t458 => (if a2 < 11 then (chirographref08_Pad.j1 kj3 a2 t458 true) else (chirographref08_Pad.j1 kj3 a2 t458 (decide ((wrap64 (a2 - 11)) < (t458.length : Int)))))))) = some (r1, r2) := by first | (rw [hy446]; with_reducible exact H) | (have H2_ := (Option.bind_some _ _).symm.trans H; rw [hy446]; with_reducible exact H2_) | (have H2_ := (Option.bind_some _ _).symm.trans H; with_reducible exact H2_) | with_reducible exact H | (rw [hy446]; exact H) | exact H
        have Ny446 := Aside0.mk hy446
        clear hy446
        replace H := Option.bind_eq_some_iff.mp H
        obtain ⟨t449, A180, H⟩ := H
        replace H : ((chirographref08_Prim.f kj3 4 l1).bind fun t452 => ((chirographref08_Seq.f kj3 16 (([t449, t452] : List (List Int)))).bind fun t458 => (if a2 < 11 then (chirographref08_Pad.j1 kj3 a2 t458 true) else (chirographref08_Pad.j1 kj3 a2 t458 (decide ((wrap64 (a2 - 11)) < (t458.length : Int))))))) = some (r1, r2) := H
        have A18 := Aside0.mk A180
        clear A180
        replace H := Option.bind_eq_some_iff.mp H
        obtain ⟨t452, A190, H⟩ := H
        replace H : ((chirographref08_Seq.f kj3 16 (([t449, t452] : List (List Int)))).bind fun t458 => (if a2 < 11 then (chirographref08_Pad.j1 kj3 a2 t458 true) else (chirographref08_Pad.j1 kj3 a2 t458 (decide ((wrap64 (a2 - 11)) < (t458.length : Int)))))) = some (r1, r2) := H
        have A19 := Aside0.mk A190
        clear A190
        obtain ⟨y455, hy455⟩ : ∃ y_ : List (List Int), y_ = (([t449, t452] : List (List Int))) := ⟨_, rfl⟩
        replace H : ((chirographref08_Seq.f kj3 16 y455).bind fun t458 => (if a2 < 11 then (chirographref08_Pad.j1 kj3 a2 t458 true) else (chirographref08_Pad.j1 kj3 a2 t458 (decide ((wrap64 (a2 - 11)) < (t458.length : Int)))))) = some (r1, r2) := by first | (rw [hy455]; with_reducible exact H) | (have H2_ := (Option.bind_some _ _).symm.trans H; rw [hy455]; with_reducible exact H2_) | (have H2_ := (Option.bind_some _ _).symm.trans H; with_reducible exact H2_) | with_reducible exact H | (rw [hy455]; exact H) | exact H
        have Ny455 := Aside0.mk hy455
        clear hy455
        replace H := Option.bind_eq_some_iff.mp H
        obtain ⟨t458, A200, H⟩ := H
        replace H : (if a2 < 11 then (chirographref08_Pad.j1 kj3 a2 t458 true) else (chirographref08_Pad.j1 kj3 a2 t458 (decide ((wrap64 (a2 - 11)) < (t458.length : Int))))) = some (r1, r2) := H
        have A20 := Aside0.mk A200
        clear A200
        have HC21 := Aside0.mk H
        clear H
        go_upto_region 4 with (first | ((with_reducible refine gate_callee (f := 36) rfl ?_); refine goesL_ (some 25) rfl rfl Tryd.func36 (by kernel_rfl) rfl #[.int .i64 a0] rfl (by (try simp only [List.map_toArray, List.map_cons, List.map_nil]); first | done | rfl | (simp only [List.length_drop, List.length_take]; rfl)) ?_; (with_reducible refine (chirographref08_Oid.calls a0 t439 _ A15.out).mono ?_); rintro e w' ⟨rfl, ⟨nd, rfl⟩⟩; refine ⟨_, rfl, ?_⟩) | ((with_reducible refine gate_callee (f := 35) rfl ?_); refine goesL_ (some 26) rfl rfl Tryd.func35 (by kernel_rfl) rfl #[.string t439] rfl (by (try simp only [List.map_toArray, List.map_cons, List.map_nil]); first | done | rfl | (simp only [List.length_drop, List.length_take]; rfl)) ?_; (with_reducible refine (chirographref08_OidOf.calls kj3 t439 t440 _ A16.out).mono ?_); rintro e w22 ⟨v441, rfl, ho0, hb⟩; refine ⟨_, rfl, ?_⟩; have n0_ := Aside0.mk (Kd.R_lower ho0 (below_size (by repeat (first | (with_reducible first | exact HB.out | apply below_alloc | apply pw_below_drewN | apply below_drew1) | exact HB.out)))); have n1_ := Aside0.mk (below_step (by repeat (first | (with_reducible first | exact HB.out | apply below_alloc | apply pw_below_drewN | apply below_drew1) | exact HB.out)) hb); clear HB; have HO442 := n0_; have HB := n1_; clear n0_ n1_; (try clear hb); (try clear hb2); (try clear hk); (try clear hi); (try clear ho0)) | ((with_reducible refine gate_callee (f := 37) rfl ?_); refine goesL_ (some 27) rfl rfl Tryd.func37 (by kernel_rfl) rfl #[.int .i64 5, .slice none 0 0] rfl (by (try simp only [List.map_toArray, List.map_cons, List.map_nil]); first | done | rfl | (simp only [List.length_drop, List.length_take]; rfl)) ?_; (refine (chirographref08_Prim.calls kj3 5 (fun k_ => False) _ _ ([] : List Int) t443 _ ?side1 A17.out).mono ?_); (case side1 => exact Kd.V_nil _ _ _ _ _); rintro e w23 ⟨v444, rfl, ho0, hb⟩; refine ⟨_, rfl, ?_⟩; have n0_ := Aside0.mk (Kd.R_elder' (by (with_reducible repeat (first | apply Kd.R_alloc | apply Kd.R_drewN | apply Kd.R_drew)); exact HO442.out) (Kd.R_base ho0) hb); have n1_ := Aside0.mk (Kd.R_lower (Kd.R_new' (Kd.R_mono (ok' := fun k_ => True) ho0 (fun _ hk_ => trivial)) (Kd.R_lt (by (with_reducible repeat (first | apply Kd.R_alloc | apply Kd.R_drewN | apply Kd.R_drew)); exact HO442.out))) (below_size (by repeat (first | (with_reducible first | exact HB.out | apply below_alloc | apply pw_below_drewN | apply below_drew1) | exact HB.out)))); have n2_ := Aside0.mk (below_step (by repeat (first | (with_reducible first | exact HB.out | apply below_alloc | apply pw_below_drewN | apply below_drew1) | exact HB.out)) hb); clear HO442; clear HB; have HO442 := n0_; have HO445 := n1_; have HB := n2_; clear n0_ n1_ n2_; (try clear hb); (try clear hb2); (try clear hk); (try clear hi); (try clear ho0); obtain ⟨Ao24, co24, eo24⟩ := Kd.R_slice HO442.out; subst eo24; obtain ⟨Ao25, co25, eo25⟩ := Kd.R_slice HO445.out; subst eo25) | ((with_reducible refine gate_dst (N := 28) rfl ?_); (try (refine gate_guard (by rfl) ?_; dsimp only)); refine Kd.N_lit (Kd.slice 5 (Kd.int .u8)) _ 31 ?hg (N' := 28) ?hd (xs := ([t440, t443] : List (List Int))) (inner := [.slice Ao24 t440.length co24, .slice Ao25 t443.length co25]) (ok := (fun _ => True)) (okp := (fun _ => True)) ?hr ?hp (fun _ hk => hk) ((show ∀ k_, w23.heap.size ≤ k_ → (fun _ => True) k_ from fun k_ hk => trivial) _ (Nat.le_refl _)) (Below.refl _ _) (Nat.le_refl _) (by simp) ?_; (case hd => rfl); (case hg => rfl); (case hr => first | (go_simp; done) | (go_simp; rfl)); (case hp => exact (Reps.one (show Kd.FK (Kd.slice 5 (Kd.int .u8)) _ _ t440 [.slice Ao24 t440.length co24] from (Kd.FK_slice_mk (Kd.R_reads' (Kd.R_mono (ok' := (fun _ => True)) (HO442.out) (fun k_ hk => trivial))).2.1 (Kd.R_F (Kd.R_mono (ok' := (fun _ => True)) (HO442.out) (fun k_ hk => trivial))))) (Reps.one (show Kd.FK (Kd.slice 5 (Kd.int .u8)) _ _ t443 [.slice Ao25 t443.length co25] from (Kd.FK_slice_mk (Kd.R_reads' (Kd.R_mono (ok' := (fun _ => True)) (HO445.out) (fun k_ hk => trivial))).2.1 (Kd.R_F (Kd.R_mono (ok' := (fun _ => True)) (HO445.out) (fun k_ hk => trivial))))) (Reps.none _ _)))); intro v447 w26 ho27 hb hg_ hnew_; clear hg_ hnew_; (first | rw [← Ny446.out] at ho27 | (simp only [Int.reduceToNat] at ho27; rw [← Ny446.out] at ho27)); have n0_ := Aside0.mk (Kd.N_lower ho27 (below_size (by repeat (first | (with_reducible first | exact HB.out | apply below_alloc | apply pw_below_drewN | apply below_drew1) | exact HB.out)))); have n1_ := Aside0.mk (below_step (by repeat (first | (with_reducible first | exact HB.out | apply below_alloc | apply pw_below_drewN | apply below_drew1) | exact HB.out)) hb); clear HB; clear HO442; clear HO445; have HO448 := n0_; have HB := n1_; clear n0_ n1_; clear hb ho27; obtain ⟨Ao28, co28, eo28⟩ := Kd.N_slice HO448.out; subst eo28) | ((with_reducible refine gate_callee (f := 34) rfl ?_); refine goesL_ (some 29) rfl rfl Tryd.func34 (by kernel_rfl) rfl #[.int .i64 16, .slice Ao28 y446.length co28] rfl (by (try simp only [List.map_toArray, List.map_cons, List.map_nil]); first | done | rfl | (simp only [List.length_drop, List.length_take]; rfl)) ?_; (with_reducible refine (chirographref08_Seq.calls kj3 16 _ _ y446 t449 _ ?side1 ?side2 A18.out).mono ?_); (case side1 => repeat (first | exact (Kd.N_reads' HO448.out).2.2 | (with_reducible refine Kd.C_alloc ?_ _) | (with_reducible refine Kd.C_drewN ?_ _) | (with_reducible refine Kd.C_drew ?_))); (case side2 => exact (Kd.N_reads' HO448.out).2.1); rintro e w29 ⟨v450, rfl, ho0, hb⟩; refine ⟨_, rfl, ?_⟩; have n0_ := Aside0.mk (Kd.N_elder' (by (with_reducible repeat (first | apply Kd.N_alloc | apply Kd.N_drewN | apply Kd.N_drew)); exact HO448.out) (Kd.R_base ho0) hb); have n1_ := Aside0.mk (Kd.R_lower ho0 (below_size (by repeat (first | (with_reducible first | exact HB.out | apply below_alloc | apply pw_below_drewN | apply below_drew1) | exact HB.out)))); have n2_ := Aside0.mk (below_step (by repeat (first | (with_reducible first | exact HB.out | apply below_alloc | apply pw_below_drewN | apply below_drew1) | exact HB.out)) hb); clear HO448; clear HB; have HO448 := n0_; have HO451 := n1_; have HB := n2_; clear n0_ n1_ n2_; (try clear hb); (try clear hb2); (try clear hk); (try clear hi); (try clear ho0)) | ((with_reducible refine gate_callee (f := 37) rfl ?_); refine goesL_ (some 31) rfl rfl Tryd.func37 (by kernel_rfl) rfl #[.int .i64 4, .slice A1 l1.length c1] rfl (by (try simp only [List.map_toArray, List.map_cons, List.map_nil]); first | done | rfl | (simp only [List.length_drop, List.length_take]; rfl)) ?_; (with_reducible refine (chirographref08_Prim.calls kj3 4 (fun k_ => k_ < w.heap.size) _ _ l1 t452 _ ?side1 A19.out).mono ?_); (case side1 => exact Kd.V_mk HC1.out (Kd.F_below (Kd.C_F (Kd.heap_int .u8) HR1.out) (by repeat (first | (with_reducible first | exact HB.out | apply below_alloc | apply pw_below_drewN | apply below_drew1) | exact HB.out)))); rintro e w30 ⟨v453, rfl, ho0, hb⟩; refine ⟨_, rfl, ?_⟩; have n0_ := Aside0.mk (Kd.N_elder' (by (with_reducible repeat (first | apply Kd.N_alloc | apply Kd.N_drewN | apply Kd.N_drew)); exact HO448.out) (Kd.R_base ho0) hb); have n1_ := Aside0.mk (Kd.R_elder' (by (with_reducible repeat (first | apply Kd.R_alloc | apply Kd.R_drewN | apply Kd.R_drew)); exact HO451.out) (Kd.R_base ho0) hb); have n2_ := Aside0.mk (Kd.R_lower (Kd.R_new' (Kd.R_mono (ok' := fun k_ => True) ho0 (fun _ hk_ => trivial)) (Kd.R_lt (by (with_reducible repeat (first | apply Kd.R_alloc | apply Kd.R_drewN | apply Kd.R_drew)); exact HO451.out))) (below_size (by repeat (first | (with_reducible first | exact HB.out | apply below_alloc | apply pw_below_drewN | apply below_drew1) | exact HB.out)))); have n3_ := Aside0.mk (below_step (by repeat (first | (with_reducible first | exact HB.out | apply below_alloc | apply pw_below_drewN | apply below_drew1) | exact HB.out)) hb); clear HO448; clear HO451; clear HB; have HO448 := n0_; have HO451 := n1_; have HO454 := n2_; have HB := n3_; clear n0_ n1_ n2_ n3_; (try clear hb); (try clear hb2); (try clear hk); (try clear hi); (try clear ho0); obtain ⟨Ao31, co31, eo31⟩ := Kd.R_slice HO451.out; subst eo31; obtain ⟨Ao32, co32, eo32⟩ := Kd.R_slice HO454.out; subst eo32) | ((with_reducible refine gate_dst (N := 32) rfl ?_); (try (refine gate_guard (by rfl) ?_; dsimp only)); refine Kd.N_lit (Kd.slice 5 (Kd.int .u8)) _ 31 ?hg (N' := 32) ?hd (xs := ([t449, t452] : List (List Int))) (inner := [.slice Ao31 t449.length co31, .slice Ao32 t452.length co32]) (ok := (fun k_ => some k_ ≠ (.slice Ao28 y446.length co28 : Value).ownBlock)) (okp := (fun k_ => some k_ ≠ (.slice Ao28 y446.length co28 : Value).ownBlock)) ?hr ?hp (fun _ hk => hk) ((show ∀ k_, w30.heap.size ≤ k_ → (fun k_ => some k_ ≠ (.slice Ao28 y446.length co28 : Value).ownBlock) k_ from fun k_ hk => Kd.fresh' (Kd.N_lt (by (with_reducible repeat (first | apply Kd.N_alloc | apply Kd.N_drewN | apply Kd.N_drew)); exact HO448.out)) k_ hk) _ (Nat.le_refl _)) (Below.refl _ _) (Nat.le_refl _) (by simp) ?_; (case hd => rfl); (case hg => rfl); (case hr => first | (go_simp; done) | (go_simp; rfl)); (case hp => exact (Reps.one (show Kd.FK (Kd.slice 5 (Kd.int .u8)) _ _ t449 [.slice Ao31 t449.length co31] from (Kd.FK_slice_mk (Kd.R_reads' (Kd.R_mono (ok' := (fun k_ => some k_ ≠ (.slice Ao28 y446.length co28 : Value).ownBlock)) (Kd.R_apart' (HO451.out) (Kd.N_typed HO448.out) (by decide)) (fun k_ hk => hk.2))).2.1 (Kd.R_F (Kd.R_mono (ok' := (fun k_ => some k_ ≠ (.slice Ao28 y446.length co28 : Value).ownBlock)) (Kd.R_apart' (HO451.out) (Kd.N_typed HO448.out) (by decide)) (fun k_ hk => hk.2))))) (Reps.one (show Kd.FK (Kd.slice 5 (Kd.int .u8)) _ _ t452 [.slice Ao32 t452.length co32] from (Kd.FK_slice_mk (Kd.R_reads' (Kd.R_mono (ok' := (fun k_ => some k_ ≠ (.slice Ao28 y446.length co28 : Value).ownBlock)) (Kd.R_apart' (HO454.out) (Kd.N_typed HO448.out) (by decide)) (fun k_ hk => hk.2))).2.1 (Kd.R_F (Kd.R_mono (ok' := (fun k_ => some k_ ≠ (.slice Ao28 y446.length co28 : Value).ownBlock)) (Kd.R_apart' (HO454.out) (Kd.N_typed HO448.out) (by decide)) (fun k_ hk => hk.2))))) (Reps.none _ _)))); intro v456 w33 ho34 hb hg_ hnew_; clear hg_ hnew_; (first | rw [← Ny455.out] at ho34 | (simp only [Int.reduceToNat] at ho34; rw [← Ny455.out] at ho34)); have n0_ := Aside0.mk (Kd.N_elder' (by (with_reducible repeat (first | apply Kd.N_alloc | apply Kd.N_drewN | apply Kd.N_drew)); exact HO448.out) (Kd.N_base ho34) hb); have n1_ := Aside0.mk (Kd.N_lower ho34 (below_size (by repeat (first | (with_reducible first | exact HB.out | apply below_alloc | apply pw_below_drewN | apply below_drew1) | exact HB.out)))); have n2_ := Aside0.mk (below_step (by repeat (first | (with_reducible first | exact HB.out | apply below_alloc | apply pw_below_drewN | apply below_drew1) | exact HB.out)) hb); clear HO448; clear HB; clear HO451; clear HO454; have HO448 := n0_; have HO457 := n1_; have HB := n2_; clear n0_ n1_ n2_; clear hb ho34; obtain ⟨Ao35, co35, eo35⟩ := Kd.N_slice HO457.out; subst eo35) | ((with_reducible refine gate_callee (f := 34) rfl ?_); refine goesL_ (some 33) rfl rfl Tryd.func34 (by kernel_rfl) rfl #[.int .i64 16, .slice Ao35 y455.length co35] rfl (by (try simp only [List.map_toArray, List.map_cons, List.map_nil]); first | done | rfl | (simp only [List.length_drop, List.length_take]; rfl)) ?_; (with_reducible refine (chirographref08_Seq.calls kj3 16 _ _ y455 t458 _ ?side1 ?side2 A20.out).mono ?_); (case side1 => repeat (first | exact (Kd.N_reads' HO457.out).2.2 | (with_reducible refine Kd.C_alloc ?_ _) | (with_reducible refine Kd.C_drewN ?_ _) | (with_reducible refine Kd.C_drew ?_))); (case side2 => exact (Kd.N_reads' HO457.out).2.1); rintro e w36 ⟨v459, rfl, ho0, hb⟩; refine ⟨_, rfl, ?_⟩; have n0_ := Aside0.mk (Kd.N_elder' (by (with_reducible repeat (first | apply Kd.N_alloc | apply Kd.N_drewN | apply Kd.N_drew)); exact HO448.out) (Kd.R_base ho0) hb); have n1_ := Aside0.mk (Kd.N_elder' (by (with_reducible repeat (first | apply Kd.N_alloc | apply Kd.N_drewN | apply Kd.N_drew)); exact HO457.out) (Kd.R_base ho0) hb); have n2_ := Aside0.mk (Kd.R_lower ho0 (below_size (by repeat (first | (with_reducible first | exact HB.out | apply below_alloc | apply pw_below_drewN | apply below_drew1) | exact HB.out)))); have n3_ := Aside0.mk (below_step (by repeat (first | (with_reducible first | exact HB.out | apply below_alloc | apply pw_below_drewN | apply below_drew1) | exact HB.out)) hb); clear HO448; clear HO457; clear HB; have HO448 := n0_; have HO457 := n1_; have HO460 := n2_; have HB := n3_; clear n0_ n1_ n2_ n3_; (try clear hb); (try clear hb2); (try clear hk); (try clear hi); (try clear ho0)))
        (try simp only [Act.put, List.setIfInBounds_toArray, List.set_cons_zero, List.set_cons_succ])
        go_cut [42] (fun v42 wc => ∃ (kq : Nat) (x42_20 : Bool), v42 = .bool x42_20 ∧ Aside0 (chirographref08_Pad.j1 kq a2 t458 x42_20 = some (r1, r2)) ∧ Aside0 (kq ≤ kj3) ∧ Aside0 (Kd.R (Kd.int .u8) 5 wc w.heap.size (fun _ => True) v459 t458) ∧ Aside0 (Below w.heap.size w wc))
        case first =>
          have H := HC21.out
          clear HC21
          by_cases c37 : a2 < 11
          · rw [if_pos c37] at H
            have c37b0 : decide (a2 < 11) = true := decide_eq_true c37
            clear c37
            (first | rw [c37b0] | (simp only [i64_w, i32_w]; rw [c37b0]) | skip)
            have H' := Aside0.mk H
            clear H
            go_wp2
            go_meet
            case rel => exact ⟨_, (true), (by first | rfl | (simp; done) | (simp [*]; done)), H', ⟨by have := HJ3.out; first | omega | exact Nat.le_refl _⟩, ⟨by (with_reducible repeat (first | apply Kd.R_alloc | apply Kd.R_drewN | apply Kd.R_drew)); exact HO460.out⟩, ⟨by repeat (first | (with_reducible first | exact HB.out | apply below_alloc | apply pw_below_drewN | apply below_drew1) | exact HB.out)⟩⟩
          · rw [if_neg c37] at H
            have c37b0 : decide (a2 < 11) = false := decide_eq_false c37
            clear c37
            (first | rw [c37b0] | (simp only [i64_w, i32_w]; rw [c37b0]) | skip)
            have H' := Aside0.mk H
            clear H
            obtain ⟨Ao38, co38, eo38⟩ := Kd.R_slice HO460.out
            subst eo38
            go_wp2
            go_meet
            case rel => exact ⟨_, (decide ((wrap64 (a2 - 11)) < (t458.length : Int))), (by first | rfl | (simp; done) | (simp [*]; done)), H', ⟨by have := HJ3.out; first | omega | exact Nat.le_refl _⟩, ⟨by (with_reducible repeat (first | apply Kd.R_alloc | apply Kd.R_drewN | apply Kd.R_drew)); exact HO460.out⟩, ⟨by repeat (first | (with_reducible first | exact HB.out | apply below_alloc | apply pw_below_drewN | apply below_drew1) | exact HB.out)⟩⟩
        case rest =>
          clear HC21
          try clear c1
          try clear c2
          try clear p2
          try clear c3
          try clear c6
          try clear c6b0
          try clear c6b1
          try clear p6
          try clear c9
          try clear c9b0
          try clear c9b1
          try clear c14
          try clear c19
          try clear c29
          try clear c34
          try clear c35
          try clear c36
          try clear c37
          try clear c37b0
          try clear p2
          obtain ⟨kq, x42_20, rfl, HA, HJ20, HO_8, HB⟩ := hcut
          cases kq with
          | zero => exact absurd HA.out (by simp [chirographref08_Pad.j1])
          | succ kj20 =>
            have H := HA.out
            clear HA
            simp only [chirographref08_Pad.j1] at H
            by_cases c39 : x42_20 = true
            · subst c39
              have H1 : (some (([] : List Int), 2)) = some (r1, r2) := by rw [if_pos rfl] at H; exact H
              clear H
              have H := H1
              clear H1
              simp only [Option.some.injEq, Prod.mk.injEq] at H
              obtain ⟨rfl, rfl⟩ := H
              go_wp2
              go_ret2
              exact ⟨_, by first | rfl | (simp [errW_none, errW_some] <;> rfl) | (simp [*, errW_none, errW_some] <;> rfl), by first | exact Kd.R_nil _ _ _ _ _ | exact Kd.N_nil _ _ _ _ _ | exact Kd.V_nil _ _ _ _ _ | exact Kd.Q_nil _ _ _ _ _ | exact Kd.S_nil _ _ _ _ _, by repeat (first | (with_reducible first | exact HB.out | apply below_alloc | apply pw_below_drewN | apply below_drew1) | exact HB.out)⟩
            · replace c39 := Bool.eq_false_iff.mpr c39
              subst c39
              have H1 : (chirographref08_Pad.l0 kj20 a2 t458 (([0, 1] : List Int))) = some (r1, r2) := by rw [if_neg (show ¬ (false = true) by decide)] at H; exact H
              clear H
              have H := H1
              clear H1
              obtain ⟨y461, hy461⟩ : ∃ y_ : List Int, y_ = (([0, 1] : List Int)) := ⟨_, rfl⟩
              replace H : (chirographref08_Pad.l0 kj20 a2 t458 y461) = some (r1, r2) := by first | (rw [hy461]; with_reducible exact H) | (have H2_ := (Option.bind_some _ _).symm.trans H; rw [hy461]; with_reducible exact H2_) | (have H2_ := (Option.bind_some _ _).symm.trans H; with_reducible exact H2_) | with_reducible exact H | (rw [hy461]; exact H) | exact H
              have Ny461 := Aside0.mk hy461
              clear hy461
              have H' := Aside0.mk H
              clear H
              go_wp2_with (first | ((with_reducible refine gate_dst (N := 43) rfl ?_); (try (refine gate_guard (by rfl) ?_; dsimp only)); refine Kd.R_lit (Kd.int .u8) _ 5 ?hg (N := 43) ?hd (xs := ([0, 1] : List Int)) (inner := [.int .u8 0, .int .u8 1]) (ok := fun _ => True) (okp := fun _ => True) ?hr ?hp (fun _ hk => hk) trivial (Below.refl _ _) (Nat.le_refl _) (by simp) ?_; (case hd => rfl); (case hg => rfl); (case hr => first | (go_simp; done) | (go_simp; rfl)); (case hp => exact (Reps.one (show Kd.M (Kd.int .u8) _ _ _ 0 [.int .u8 0] from rfl) (Reps.one (show Kd.M (Kd.int .u8) _ _ _ 1 [.int .u8 1] from rfl) (Reps.none _ _)))); intro v462 w40 ho41 hb hg_ hnew_; clear hg_ hnew_; (first | rw [← Ny461.out] at ho41 | (simp only [Int.reduceToNat] at ho41; rw [← Ny461.out] at ho41)); have n0_ := Aside0.mk (Kd.R_elder' (by (with_reducible repeat (first | apply Kd.R_alloc | apply Kd.R_drewN | apply Kd.R_drew)); exact HO_8.out) (Kd.R_base ho41) hb); have n1_ := Aside0.mk (Kd.R_lower (Kd.R_new' ho41 (Kd.R_lt (by (with_reducible repeat (first | apply Kd.R_alloc | apply Kd.R_drewN | apply Kd.R_drew)); exact HO_8.out))) (below_size (by repeat (first | (with_reducible first | exact HB.out | apply below_alloc | apply pw_below_drewN | apply below_drew1) | exact HB.out)))); have n2_ := Aside0.mk (below_step (by repeat (first | (with_reducible first | exact HB.out | apply below_alloc | apply pw_below_drewN | apply below_drew1) | exact HB.out)) hb); clear HO_8; clear HB; have HO_8 := n0_; have HO463 := n1_; have HB := n2_; clear n0_ n1_ n2_; clear hb ho41))
              go_loopg [9] kj20 (fun kq v9 w' => ∃ (x9_3 : List Int), Aside0 (chirographref08_Pad.l0 kq a2 t458 x9_3 = some (r1, r2)) ∧ Aside0 (kq ≤ kj20) ∧ Aside0 (Kd.R (Kd.int .u8) 5 w' w.heap.size (fun k_ => some k_ ≠ (v9 : Value).ownBlock) v459 t458) ∧ Aside0 (Kd.R (Kd.int .u8) 5 w' w.heap.size (fun k_ => some k_ ≠ (v459 : Value).ownBlock) v9 x9_3) ∧ Aside0 (Below w.heap.size w w'))
              case atStart => exact ⟨(y461), H', ⟨Nat.le_refl _⟩, ⟨by (with_reducible repeat (first | apply Kd.R_alloc | apply Kd.R_drewN | apply Kd.R_drew)); exact Kd.R_mono HO_8.out (fun _ hk => hk.2)⟩, ⟨by (with_reducible repeat (first | apply Kd.R_alloc | apply Kd.R_drewN | apply Kd.R_drew)); exact Kd.R_mono HO463.out (fun _ hk => hk.2)⟩, ⟨by repeat (first | (with_reducible first | exact HB.out | apply below_alloc | apply pw_below_drewN | apply below_drew1) | exact HB.out)⟩⟩
              case round =>
                clear H'
                try clear c1
                try clear c2
                try clear p2
                try clear c3
                try clear c6
                try clear c6b0
                try clear c6b1
                try clear p6
                try clear c9
                try clear c9b0
                try clear c9b1
                try clear c14
                try clear c19
                try clear c29
                try clear c34
                try clear c35
                try clear c36
                try clear c37
                try clear c37b0
                try clear c39
                try clear p2
                try clear p6
                obtain ⟨x9_3, HA, HK3, HO_8, HO_9, HB⟩ := hrel
                cases gk with
                | zero => exact absurd HA.out (by simp [chirographref08_Pad.l0])
                | succ k3 =>
                  have H := HA.out
                  clear HA
                  simp only [chirographref08_Pad.l0] at H
                  by_cases c42 : (x9_3.length : Int) < (wrap64 ((wrap64 (a2 - 1)) - (t458.length : Int)))
                  · rw [if_pos c42] at H
                    have c42b0 : decide ((x9_3.length : Int) < (wrap64 ((wrap64 (a2 - 1)) - (t458.length : Int)))) = true := decide_eq_true c42
                    clear c42
                    by_cases c43 : x9_3.length < 140737488355328
                    · rw [if_pos c43] at H
                      have LMc43 := Aside0.mk c43
                      clear c43
                      obtain ⟨y464, hy464⟩ : ∃ y_ : List Int, y_ = (x9_3 ++ [255]) := ⟨_, rfl⟩
                      replace H : (chirographref08_Pad.l0 k3 a2 t458 y464) = some (r1, r2) := by first | (rw [hy464]; with_reducible exact H) | (have H2_ := (Option.bind_some _ _).symm.trans H; rw [hy464]; with_reducible exact H2_) | (have H2_ := (Option.bind_some _ _).symm.trans H; with_reducible exact H2_) | with_reducible exact H | (rw [hy464]; exact H) | exact H
                      have Ny464 := Aside0.mk hy464
                      clear hy464
                      have H' := Aside0.mk H
                      clear H
                      obtain ⟨Ao44, co44, eo44⟩ := Kd.R_slice HO_9.out
                      subst eo44
                      obtain ⟨Ao45, co45, eo45⟩ := Kd.R_slice HO_8.out
                      subst eo45
                      go_wp2_with (first | ((with_reducible refine gate_builtin (b := .append) (xs := #[.tmp 52, .tmp 53]) rfl ?_); (try (refine gate_guard (by rfl) ?_; dsimp only)); at_builtin; refine Kd.R_append (Kd.int .u8) (w0 := w) w.heap.size rfl (.tmp 52) (.tmp 53) 31 5 (.int .u8 0) 1 rfl Tryd.underlying31 info5 rfl (by decide) (by omega) (.slice Ao44 x9_3.length co44) x9_3 255 [.int .u8 255] (fun k_ => some k_ ≠ (.slice Ao45 t458.length co45 : Value).ownBlock) (fun _ => False) rfl rfl ?aP (fun _ hk => hk.elim) ?aF ?aO ?aB ?aS ?aL ?_; (case aP => exact rfl); (case aB => exact (by repeat (first | (with_reducible first | exact HB.out | apply below_alloc | apply pw_below_drewN | apply below_drew1) | exact HB.out))); (case aF => exact (fun k_ hk => Kd.fresh' (Kd.R_lt (by (with_reducible repeat (first | apply Kd.R_alloc | apply Kd.R_drewN | apply Kd.R_drew)); exact HO_8.out)) k_ hk)); (case aO => exact (by (with_reducible repeat (first | apply Kd.R_alloc | apply Kd.R_drewN | apply Kd.R_drew)); exact HO_9.out)); (case aS => exact (below_size (by repeat (first | (with_reducible first | exact HB.out | apply below_alloc | apply pw_below_drewN | apply below_drew1) | exact HB.out)))); (case aL => have := LMc43.out; omega); intro v465 w46 ho hb hg hat; rw [← Ny464.out] at ho; have n0_ := Aside0.mk (Kd.R_after (ok := (fun _ => True)) (by (with_reducible repeat (first | apply Kd.R_alloc | apply Kd.R_drewN | apply Kd.R_drew)); exact Kd.R_mono HO_8.out (fun _ hk => ⟨trivial, hk⟩)) hg hat); have n1_ := Aside0.mk (hb); have n2_ := Aside0.mk (ho); clear HO_8; clear HB; clear HO_9; have HO_8 := n0_; have HB := n1_; have HO466 := n2_; clear n0_ n1_ n2_; clear ho hb hg hat))
                      go_roundg k3
                      case measure => have := HJ3.out; have := HJ20.out; have := HK3.out; omega
                      case rel => exact ⟨(y464), H', ⟨by have := HJ3.out; have := HJ20.out; have := HK3.out; omega⟩, ⟨by (with_reducible repeat (first | apply Kd.R_alloc | apply Kd.R_drewN | apply Kd.R_drew)); exact Kd.R_mono HO_8.out (fun _ hk => hk.2)⟩, ⟨by (with_reducible repeat (first | apply Kd.R_alloc | apply Kd.R_drewN | apply Kd.R_drew)); exact HO466.out⟩, ⟨by repeat (first | (with_reducible first | exact HB.out | apply below_alloc | apply pw_below_drewN | apply below_drew1) | exact HB.out)⟩⟩
                    · rw [if_neg c43] at H
                      exact absurd H (by simp)
                  · rw [if_neg c42] at H
                    have c42b0 : decide ((x9_3.length : Int) < (wrap64 ((wrap64 (a2 - 1)) - (t458.length : Int)))) = false := decide_eq_false c42
                    clear c42
                    by_cases c47 : x9_3.length < 140737488355328
                    · rw [if_pos c47] at H
                      have LMc47 := Aside0.mk c47
                      clear c47
                      obtain ⟨y467, hy467⟩ : ∃ y_ : List Int, y_ = (x9_3 ++ [0]) := ⟨_, rfl⟩
                      replace H : (if y467.length + t458.length < 140737488355328 then (some ((y467 ++ t458), 0)) else (none)) = some (r1, r2) := by first | (rw [hy467]; with_reducible exact H) | (have H2_ := (Option.bind_some _ _).symm.trans H; rw [hy467]; with_reducible exact H2_) | (have H2_ := (Option.bind_some _ _).symm.trans H; with_reducible exact H2_) | with_reducible exact H | (rw [hy467]; exact H) | exact H
                      have Ny467 := Aside0.mk hy467
                      clear hy467
                      by_cases c48 : y467.length + t458.length < 140737488355328
                      · rw [if_pos c48] at H
                        have LMc48 := Aside0.mk c48
                        clear c48
                        obtain ⟨y470, hy470⟩ : ∃ y_ : List Int, y_ = (y467 ++ t458) := ⟨_, rfl⟩
                        replace H : (some (y470, 0)) = some (r1, r2) := by first | (rw [hy470]; with_reducible exact H) | (have H2_ := (Option.bind_some _ _).symm.trans H; rw [hy470]; with_reducible exact H2_) | (have H2_ := (Option.bind_some _ _).symm.trans H; with_reducible exact H2_) | with_reducible exact H | (rw [hy470]; exact H) | exact H
                        have Ny470 := Aside0.mk hy470
                        clear hy470
                        simp only [Option.some.injEq, Prod.mk.injEq] at H
                        obtain ⟨rfl, rfl⟩ := H
                        obtain ⟨Ao49, co49, eo49⟩ := Kd.R_slice HO_9.out
                        subst eo49
                        obtain ⟨Ao50, co50, eo50⟩ := Kd.R_slice HO_8.out
                        subst eo50
                        go_wp2_with (first | ((with_reducible refine gate_builtin (b := .append) (xs := #[.tmp 55, .tmp 56]) rfl ?_); (try (refine gate_guard (by rfl) ?_; dsimp only)); at_builtin; refine Kd.R_append (Kd.int .u8) (w0 := w) w.heap.size rfl (.tmp 55) (.tmp 56) 31 5 (.int .u8 0) 1 rfl Tryd.underlying31 info5 rfl (by decide) (by omega) (.slice Ao49 x9_3.length co49) x9_3 0 [.int .u8 0] (fun k_ => some k_ ≠ (.slice Ao50 t458.length co50 : Value).ownBlock) (fun _ => False) rfl rfl ?aP (fun _ hk => hk.elim) ?aF ?aO ?aB ?aS ?aL ?_; (case aP => exact rfl); (case aB => exact (by repeat (first | (with_reducible first | exact HB.out | apply below_alloc | apply pw_below_drewN | apply below_drew1) | exact HB.out))); (case aF => exact (fun k_ hk => Kd.fresh' (Kd.R_lt (by (with_reducible repeat (first | apply Kd.R_alloc | apply Kd.R_drewN | apply Kd.R_drew)); exact HO_8.out)) k_ hk)); (case aO => exact (by (with_reducible repeat (first | apply Kd.R_alloc | apply Kd.R_drewN | apply Kd.R_drew)); exact HO_9.out)); (case aS => exact (below_size (by repeat (first | (with_reducible first | exact HB.out | apply below_alloc | apply pw_below_drewN | apply below_drew1) | exact HB.out)))); (case aL => have := LMc47.out; omega); intro v468 w51 ho hb hg hat; rw [← Ny467.out] at ho; have n0_ := Aside0.mk (Kd.R_after (ok := (fun _ => True)) (by (with_reducible repeat (first | apply Kd.R_alloc | apply Kd.R_drewN | apply Kd.R_drew)); exact Kd.R_mono HO_8.out (fun _ hk => ⟨trivial, hk⟩)) hg hat); have n1_ := Aside0.mk (hb); have n2_ := Aside0.mk (ho); clear HO_8; clear HB; clear HO_9; have HO_8 := n0_; have HB := n1_; have HO469 := n2_; clear n0_ n1_ n2_; clear ho hb hg hat) | ((with_reducible refine gate_builtin (b := .append) (xs := #[.tmp 57, .tmp 58]) rfl ?_); (try (refine gate_guard (by rfl) ?_; dsimp only)); at_builtin; refine Kd.R_append_rows (Kd.int .u8) (w0 := w) w.heap.size rfl (.tmp 57) (.tmp 58) 31 5 (.int .u8 0) 1 rfl Tryd.underlying31 info5 rfl (by decide) (by omega) v468 y467 t458 _ _ _ (fun k_ => some k_ ≠ (.slice Ao50 t458.length co50 : Value).ownBlock) (fun _ => False) rfl rfl ?aO ?aR (fun _ _ h => h) (fun _ h => h.elim) ?aF ?aB ?aS ?aL ?_; (case aR => repeat (first | exact (Kd.R_reads' HO_8.out).2.2 | (with_reducible refine Kd.C_alloc ?_ _) | (with_reducible refine Kd.C_drewN ?_ _) | (with_reducible refine Kd.C_drew ?_))); (case aB => exact (by repeat (first | (with_reducible first | exact HB.out | apply below_alloc | apply pw_below_drewN | apply below_drew1) | exact HB.out))); (case aF => exact (fun k_ hk => Kd.fresh' (Kd.R_lt (by (with_reducible repeat (first | apply Kd.R_alloc | apply Kd.R_drewN | apply Kd.R_drew)); exact HO_8.out)) k_ hk)); (case aO => exact (by (with_reducible repeat (first | apply Kd.R_alloc | apply Kd.R_drewN | apply Kd.R_drew)); exact HO469.out)); (case aS => exact (below_size (by repeat (first | (with_reducible first | exact HB.out | apply below_alloc | apply pw_below_drewN | apply below_drew1) | exact HB.out)))); (case aL => have := LMc48.out; omega); intro v471 w52 ho hb hg hat; rw [← Ny470.out] at ho; have n0_ := Aside0.mk (Kd.R_after (ok := (fun _ => True)) (by (with_reducible repeat (first | apply Kd.R_alloc | apply Kd.R_drewN | apply Kd.R_drew)); exact HO_8.out) hg hat); have n1_ := Aside0.mk (hb); have n2_ := Aside0.mk (ho); clear HO_8; clear HB; clear HO469; have HO_8 := n0_; have HB := n1_; have HO472 := n2_; clear n0_ n1_ n2_; clear ho hb hg hat))
                        go_ret2
                        exact ⟨_, by first | rfl | (simp [errW_none, errW_some] <;> rfl) | (simp [*, errW_none, errW_some] <;> rfl), by (with_reducible repeat (first | apply Kd.R_alloc | apply Kd.R_drewN | apply Kd.R_drew)); exact Kd.R_mono HO472.out (fun _ hk => trivial), by repeat (first | (with_reducible first | exact HB.out | apply below_alloc | apply pw_below_drewN | apply below_drew1) | exact HB.out)⟩
                      · rw [if_neg c48] at H
                        exact absurd H (by simp)
                    · rw [if_neg c47] at H
                      exact absurd H (by simp)

end Go.Proofs.YtdncmmipopdhbaaDoor.P
end

section
/-
  Walk: chirographlaw08.RsaPads.
-/
set_option linter.unusedVariables false
set_option linter.unusedSimpArgs false
namespace Go.Proofs.YtdncmmipopdhbaaDoor.P
open Go.RowKit Go.Proofs.YtdncmmipopdhbaaDoorW.PrintWords Go.Proofs.YtdncmmipopdhbaaDoorW.PrintLast Go.Proofs.YtdncmmipopdhbaaDoorW.PrintMore

set_option maxHeartbeats 8000000 in
set_option maxRecDepth 100000 in
theorem pads_calls (alg n : Int) (A : Option Addr) (c : Nat) (l : List Int) (w : World) (hr : K.Rd w .u8 A l) (hc : l.length ≤ c) (hKA : Sha.KAt w) (k : Nat) (r1 : List Int) (r2 : Int)
    (h : l.length ≤ 8192 → rsa_Pad.f alg l n = some (r1, r2) ∧ chirographref08_Pad.f k alg l n = some (r1, r2) ∧ r1.length ≤ 4000) :
    Calls Tryd.prog 5 #[.int .i64 alg, .slice A l.length c, .int .i64 n] w fun e w' => e = .returned (.bool true) ∧ Below w.heap.size w w' := by
  have H := Lib.hid h
  clear h
  go_enter Tryd.func5, Tryd.ntmps5
  by_cases h1 : 8192 < l.length
  · have h1i : (8192 : Int) < (l.length : Int) := by omega
    go_wp2_with fail
    refine (chirographlaw08_live.calls true w hKA rfl).mono ?_
    rintro e w2 ⟨rfl, hb2⟩
    go_wp2
    go_ret
    exact ⟨rfl, hb2⟩
  · have h1i : ¬ (8192 : Int) < (l.length : Int) := by omega
    obtain ⟨e1, e2, e3⟩ := H.out (by omega)
    go_wp2_with fail
    refine (lentBytes_calls A c l w hr hc (by omega)).mono ?_
    rintro e w1 ⟨A1, c1, rfl, hc1, h631, hr1, hat1, hb1⟩
    have hrt1 : K.Rd w1 .u8 A1 l := by have := hr1.take l.length; rwa [List.take_left' rfl] at this
    go_wp2_with fail
    refine (rsa_Pad.calls alg A1 c1 l n r1 r2 w1 (rd_C hrt1 rfl) (by omega) e1).mono ?_
    rintro e w2 ⟨v2, rfl, hR2, hb2⟩
    have hO2 := R_own hR2
    obtain ⟨A2, c2, rfl, hc2, h632, hat2, hr2⟩ := hO2.rd
    have hb12 := hb1.trans (hb2.mono hb1.size)
    go_wp2_with fail
    refine (chirographref08_Pad.calls k alg A c l n r1 r2 w2 (rd_C (hr.below hb12) rfl) hc e2).mono ?_
    rintro e w3 ⟨v3, rfl, hR3, hb3⟩
    have hO3 := R_own hR3
    obtain ⟨A3, c3, rfl, hc3, h633, hat3, hr3⟩ := hO3.rd
    have hb13 := hb12.trans (hb3.mono hb12.size)
    have hr23 := hr2.below hb3
    clear hR2 hR3 hO2 hO3
    go_wp2_with fail
    have hs : chirographref01_SameBytes.f 10000 r1 r1 = some true := by rw [same_f r1 r1 (by omega) 10000 (by omega)]; simp
    refine (chirographref01_SameBytes.calls 10000 A2 c2 r1 A3 c3 r1 _ w3 (rd_C hr23 rfl) hc2 (rd_C hr3 rfl) hc3 hs).mono ?_
    rintro e w4 ⟨rfl, ⟨n4, rfl⟩⟩
    have hb4 : Below w.heap.size w (w3.drewN n4) := K.below_drewN hb13 _
    have hb24 : Below w1.heap.size w1 (w3.drewN n4) := K.below_drewN (hb2.trans (hb3.mono hb2.size)) _
    generalize w3.drewN n4 = w4 at *
    go_wp2_with fail
    refine (chirographlaw08_num.calls r2 r2 w4 rfl).mono ?_
    rintro e w5 ⟨rfl, ⟨n5, rfl⟩⟩
    have hb5 : Below w.heap.size w (w4.drewN n5) := K.below_drewN hb4 _
    have hb25 : Below w1.heap.size w1 (w4.drewN n5) := K.below_drewN hb24 _
    generalize w4.drewN n5 = w5 at *
    go_wp2_with fail
    refine (keptBytes_calls A1 A c1 c l w5 (hr1.below hb25) hc1 (hr.below hb5) hc (by omega)).mono ?_
    rintro e w6 ⟨rfl, hb6⟩
    have hb7 := hb5.trans (hb6.mono hb5.size)
    go_wp2_with fail
    refine (chirographlaw08_live.calls true w6 (hKA.below hb7) rfl).mono ?_
    rintro e w7 ⟨rfl, hb8⟩
    go_wp2
    go_ret
    exact ⟨rfl, hb7.trans (hb8.mono hb7.size)⟩
end Go.Proofs.YtdncmmipopdhbaaDoor.P
end

section
/-
  Plain: digests filled up: the program's answer is the reference's.
-/
set_option linter.unusedVariables false
set_option linter.unusedSimpArgs false
namespace Go.Proofs.YtdncmmipopdhbaaDoor.P
open Go.RowKit Go.Proofs.YtdncmmipopdhbaaDoorW.PrintWords Go.Proofs.YtdncmmipopdhbaaDoorW.PrintLast Go.Proofs.YtdncmmipopdhbaaDoorW.PrintMore

theorem w64i (n : Int) (h : -4611686018427387904 ≤ n ∧ n ≤ 4611686018427387904) : wrap64 n = n := by unfold wrap64; omega
theorem head_f (tag : Int) (cons : Bool) (n : Nat) (h1 : 1 ≤ tag) (h2 : tag ≤ 30) (hn : n < 128) (k : Nat) : chirographref03_Head.f (k + 1 + 1) 0 0 tag cons [] (n : Int) = some [(if cons then 32 else 0) + tag, (n : Int)] := by
  have ht : tag % 256 = tag := by omega
  have hm : (n : Int) % 256 = n := by omega
  cases cons
  · have e : chirographref03_Head.f (k + 1 + 1) 0 0 tag false [] (n : Int) = chirographref03_Head.j0 (k + 1 + 1) (n : Int) 0 0 0 tag false [] := rfl
    rw [e, chirographref03_Head.j0, if_pos (by omega), chirographref03_Head.j2, if_pos (by omega), if_pos (by simp), ht, hm]
    simp
    omega
  · have e : chirographref03_Head.f (k + 1 + 1) 0 0 tag true [] (n : Int) = chirographref03_Head.j0 (k + 1 + 1) (n : Int) 32 0 0 tag true [] := rfl
    rw [e, chirographref03_Head.j0, if_pos (by omega), chirographref03_Head.j2, if_pos (by omega), if_pos (by simp), ht, hm]
    simp
    omega
theorem rput_l0 (tag : Int) (cons : Bool) (ls : List (List Int)) (h1 : 1 ≤ tag) (h2 : tag ≤ 30) (hl : ls.length ≤ 16) (hf : ls.flatten.length < 128) : ∀ m j k, j + m = ls.length → m + 3 ≤ k → chirographref04_Put.l0 k 0 tag cons ls (ls.take j).flatten (j : Int) = some (((if cons then 32 else 0) + tag) :: (ls.flatten.length : Int) :: ls.flatten, 0)
  | 0, j, k, hj, hk => by
    obtain ⟨k, rfl⟩ : ∃ q, k = q + 1 + 1 + 1 := ⟨k - 3, by omega⟩
    have e : ls.take j = ls := List.take_of_length_le (by omega)
    rw [chirographref04_Put.l0, if_neg (by omega), e, head_f tag cons _ h1 h2 hf k, Option.bind_some, if_pos (by simp only [List.length_cons, List.length_nil]; omega)]
    rfl
  | m + 1, j, k, hj, hk => by
    obtain ⟨k, rfl⟩ : ∃ q, k = q + 1 := ⟨k - 1, by omega⟩
    have hjl : j < ls.length := by omega
    have er : rd_L2 ls (j : Int) = ls.getD j [] := by unfold rd_L2; rw [Int.toNat_natCast]
    have hs := flat_succ ls j hjl
    have hle := flat_le ls (j + 1)
    have hle0 := flat_le ls j
    rw [hs, List.length_append] at hle
    have ew : wrap64 ((j : Int) + 1) = ((j + 1 : Nat) : Int) := by rw [w64i _ (by omega)]; omega
    rw [chirographref04_Put.l0, if_pos (by omega), if_pos (by omega), er, w64i _ (by omega), if_neg (by omega), if_pos (by omega), ← hs, ew]
    exact rput_l0 tag cons ls h1 h2 hl hf m (j + 1) k (by omega) (by omega)
theorem rput_f (tag : Int) (cons : Bool) (ls : List (List Int)) (h1 : 1 ≤ tag) (h2 : tag ≤ 30) (hl : ls.length ≤ 16) (hf : ls.flatten.length < 128) (k : Nat) (hk : 40 ≤ k) : chirographref04_Put.f k 0 tag cons ls = some (((if cons then 32 else 0) + tag) :: (ls.flatten.length : Int) :: ls.flatten, 0) := by
  obtain ⟨k, rfl⟩ : ∃ q, k = q + 1 := ⟨k - 1, by omega⟩
  unfold chirographref04_Put.f
  rw [if_neg (by omega), if_neg (by omega), if_neg (by omega), if_neg (by omega), if_pos rfl, chirographref04_Put.j0, if_neg (by simp; omega)]
  exact rput_l0 tag cons ls h1 h2 hl hf ls.length 0 k (by omega) (by omega)
theorem up_to {α : Type} {f : Nat → Option α} (hm : ∀ k, LeO (f k) (f (k + 1))) {k : Nat} {r : α} (h : f k = some r) : ∀ m, f (k + m) = some r
  | 0 => h
  | m + 1 => hm (k + m) r (up_to hm h m)
theorem roid_f (a : Int) (ha : algOk a = true) : ∃ s, chirographref08_Oid.f a = some s ∧ ∀ m, chirographref04_PutOid.f (100 + m) s = some (oidB a, 0) := by
  unfold algOk at ha
  simp at ha
  rcases (by omega : a = 1 ∨ a = 2 ∨ a = 3 ∨ a = 4) with rfl | rfl | rfl | rfl
  all_goals exact ⟨_, rfl, fun m => up_to (f := fun k => chirographref04_PutOid.f k _) (chirographref04_PutOid.mono _) (k := 100) (by decide +kernel) m⟩
theorem pad_l0 (n : Int) (t : List Int) (hn : n ≤ 2048) (ht : t.length ≤ 100) : ∀ (m k : Nat) (out : List Int), (out.length : Int) + m = n - 1 - t.length → m < k → out.length ≤ 3000 → chirographref08_Pad.l0 k n t out = some (out ++ List.replicate m 255 ++ [0] ++ t, 0)
  | 0, k, out, ho, hk, hl => by
    obtain ⟨k, rfl⟩ : ∃ q, k = q + 1 := ⟨k - 1, by omega⟩
    rw [chirographref08_Pad.l0, w64i (n - 1) (by omega), w64i _ (by omega), if_neg (by omega), if_pos (by omega), Option.bind_some, if_pos (by simp; omega)]
    simp
  | m + 1, k, out, ho, hk, hl => by
    obtain ⟨k, rfl⟩ : ∃ q, k = q + 1 := ⟨k - 1, by omega⟩
    rw [chirographref08_Pad.l0, w64i (n - 1) (by omega), w64i _ (by omega), if_pos (by omega), if_pos (by omega), pad_l0 n t hn ht m k (out ++ [255]) (by simp; omega) (by omega) (by simp; omega)]
    simp [List.replicate_succ]
theorem pads_plain_k (alg : Int) (l : List Int) (n : Int) (hu : u8ok l = true) (K : Nat) (hK : ∃ m, K = 100 + m ∧ 4000 ≤ m) : ∃ r1 r2, rsa_Pad.f alg l n = some (r1, r2) ∧ chirographref08_Pad.f (K + 1) alg l n = some (r1, r2) ∧ r1.length ≤ 4000 := by
  obtain ⟨M, hKM, hM⟩ := hK
  obtain ⟨q, hq⟩ : ∃ q, K = q + 1 := ⟨K - 1, by omega⟩
  have hsz : chirographref02_Size.f alg = some (Sha.sizeN alg) := rfl
  unfold rsa_Pad.f chirographref08_Pad.f
  rw [hsz, Option.bind_some]
  have j0t : chirographref08_Pad.j0 (K + 1) alg l n true = some ([], 1) := by rw [chirographref08_Pad.j0, if_pos rfl]
  by_cases h1 : algOk alg = true
  · obtain ⟨hne, _, _⟩ := size_ne alg h1
    rw [if_neg hne, Option.bind_some]
    by_cases h2 : (l.length : Int) = Sha.sizeN alg
    · rw [if_pos h2]
      by_cases h3 : 2048 < n
      · refine ⟨[], 1, by rw [if_pos (.inr (.inr h3))], ?_, by simp⟩
        rw [show decide (n > 2048) = true by simpa using h3]
        exact j0t
      · have hl64 : l.length ≤ 64 := by
          unfold Sha.sizeN at h2
          repeat' (split at h2 <;> try omega)
        obtain ⟨s, e1, e2⟩ := roid_f alg h1
        obtain ⟨hil, ho9⟩ := info_len alg l
        obtain ⟨_, _, _, ho8, ho⟩ := oid_f alg h1
        have hinfo : chirographref08_Pad.j0 (K + 1) alg l n false = if n < 11 then chirographref08_Pad.j1 K n (infoB alg l) true else chirographref08_Pad.j1 K n (infoB alg l) (decide (wrap64 (n - 11) < ((infoB alg l).length : Int))) := by
          rw [chirographref08_Pad.j0, if_neg (by simp), e1, Option.bind_some]
          unfold chirographref08_OidOf.f chirographref08_Prim.f chirographref08_Seq.f
          rw [show chirographref04_PutOid.f K s = some (oidB alg, 0) by rw [hKM]; exact e2 M, Option.bind_some]
          have i : infoB alg l = infoB alg l := rfl
          unfold infoB
          generalize oidB alg = o at *
          rw [rput_f 6 false [o] (by omega) (by omega) (by simp) (by simp; omega) K (by omega)]
          simp only [Option.bind_some]
          rw [rput_f 5 false [[]] (by omega) (by omega) (by simp) (by simp) K (by omega)]
          simp only [Option.bind_some]
          have p3 := rput_f 16 true [6 :: (o.length : Int) :: o, [5, 0]] (by omega) (by omega) (by simp) (by simp; omega) K (by omega)
          have p4 := rput_f 4 false [l] (by omega) (by omega) (by simp) (by simp; omega) K (by omega)
          have p5 := rput_f 16 true [48 :: ((o.length : Int) + 4) :: 6 :: (o.length : Int) :: (o ++ [5, 0]), 4 :: (l.length : Int) :: l] (by omega) (by omega) (by simp) (by simp; omega) K (by omega)
          have e7 : (([48 :: ((o.length : Int) + 4) :: 6 :: (o.length : Int) :: (o ++ [5, 0]), 4 :: (l.length : Int) :: l].flatten.length : Nat) : Int) = (o.length : Int) + 8 + l.length := by simp; omega
          rw [e7] at p5
          have e6 : (o.length : Int) + 2 + 1 + 1 = (o.length : Int) + 4 := by omega
          simp [e6] at p3 p4 p5
          simp [p3, p4, p5]
        have hrn : ¬ (algOk alg = false ∨ ¬ (l.length : Int) = Sha.sizeN alg ∨ 2048 < n) := by
          rintro (h | h | h)
          · rw [h1] at h; cases h
          · exact h h2
          · exact h3 h
        rw [if_neg hrn, if_pos hu, show decide (n > 2048) = false by simpa using h3, show chirographref08_Pad.j0 (K + 1) alg l n false = _ from hinfo]
        generalize infoB alg l = t at *
        have ht100 : t.length ≤ 100 := by omega
        by_cases h4 : n < t.length + 11
        · refine ⟨[], 2, by rw [if_pos h4], ?_, by simp⟩
          by_cases h5 : n < 11
          · rw [if_pos h5]
            rw [hq]
            rw [chirographref08_Pad.j1, if_pos rfl]
          · rw [if_neg h5, w64i _ (by omega), show decide (n - 11 < (t.length : Int)) = true by simp; omega]
            rw [hq]
            rw [chirographref08_Pad.j1, if_pos rfl]
        · obtain ⟨m, hm⟩ : ∃ m : Nat, n = (m : Int) + t.length + 3 := ⟨(n - t.length - 3).toNat, by omega⟩
          refine ⟨_, 0, by rw [if_neg h4], ?_, by simp; omega⟩
          rw [if_neg (by omega), w64i _ (by omega), show decide (n - 11 < (t.length : Int)) = false by simp; omega]
          rw [hq]
          rw [chirographref08_Pad.j1, if_neg (by simp), pad_l0 n t (by omega) ht100 m q [0, 1] (by simp; omega) (by omega) (by simp), show n.toNat - t.length - 3 = m by omega]
          simp
    · refine ⟨[], 1, by rw [if_pos (.inr (.inl h2))], ?_, by simp⟩
      rw [if_neg h2]
      exact j0t
  · have hf : algOk alg = false := by simpa using h1
    refine ⟨[], 1, by rw [if_pos (.inl hf)], ?_, by simp⟩
    rw [if_pos (size_eq alg hf)]
    exact j0t
theorem pads_plain (alg : Int) (l : List Int) (n : Int) (hu : u8ok l = true) : ∃ k r1 r2, rsa_Pad.f alg l n = some (r1, r2) ∧ chirographref08_Pad.f k alg l n = some (r1, r2) ∧ r1.length ≤ 4000 :=
  ⟨_, pads_plain_k alg l n hu (100 + 4000) ⟨4000, rfl, Nat.le_refl _⟩⟩
end Go.Proofs.YtdncmmipopdhbaaDoor.P
end
