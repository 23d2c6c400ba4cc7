/-
  Parts of the walks and of the plain laws below the statement (Frsainfo, FdigestSize, Frsaknown, XPad, XBits). Texts named F.. are what the kit's print writes for one function each, through a program of mine that hands it contracts of the functions that it does not take.
-/
import Derived.Test.YtdncmmipopdhbaaDoorCk13
import Derived.Test.YtdncmmipopdhbaaDoorCk14
import Derived.Test.YtdncmmipopdhbaaDoorCk1
import Derived.Test.YtdncmmipopdhbaaDoorCk12
import Derived.Test.YtdncmmipopdhbaaDoorCk9
section
-- What the print of the kit writes for this function (through a program of mine that hands it contracts of functions that it does not take).
namespace Go.Proofs.YtdncmmipopdhbaaDoor.P
open Go.RowKit Go.Proofs.YtdncmmipopdhbaaDoorW.PrintWords Go.Proofs.YtdncmmipopdhbaaDoorW.PrintLast Go.Proofs.YtdncmmipopdhbaaDoorW.PrintMore
attribute [local go_sem] max2_int min2_int max_two min_two max_three min_three max_four min_four   -- for this text's walks alone
set_option linter.unusedVariables false
set_option linter.unusedSimpArgs false

/-! ### rsa_info: function 32 -/
def rsa_info.f (a0 : Int) (l1 : List Int) : Option (List Int) := (rsa_oid.f a0).bind fun t138 => ((der_PutOid.f t138).bind fun bt139 => ((der_Put.f 0 6 false (([bt139.1] : List (List Int)))).bind fun bt146 => ((der_Put.f 0 5 false ([] : List (List Int))).bind fun bt150 => ((der_Put.f 0 16 true (([bt146.1, bt150.1] : List (List Int)))).bind fun bt157 => ((der_Put.f 0 4 false (([l1] : List (List Int)))).bind fun bt164 => ((der_Put.f 0 16 true (([bt157.1, bt164.1] : List (List Int)))).bind fun bt171 => (some bt171.1)))))))
set_option maxHeartbeats 8000000 in
set_option maxRecDepth 100000 in
theorem rsa_info.calls (a0 : Int) (P1_ : Nat → Prop) (A1 : Option Addr) (c1 : Nat) (l1 : List Int) (r : List Int) (w : World) (hs1 : Kd.V (Kd.int .u8) 5 w w.heap.size (fun k_ => P1_ k_) (.slice A1 l1.length c1) l1) (h : rsa_info.f a0 l1 = some r) :
    Calls Tryd.prog 32 #[.int .i64 a0, .slice A1 l1.length c1] w fun e w' => ∃ v0_ : Value, e = .returned (v0_) ∧ Kd.R (Kd.int .u8) 5 w' w.heap.size (fun k_ => (w.heap.size ≤ k_)) v0_ r ∧ Below w.heap.size w w' := by
  have HO1 := Aside0.mk (show Kd.V (Kd.int .u8) 5 w w.heap.size (fun k_ => (P1_ k_ ∨ w.heap.size ≤ k_)) (.slice A1 l1.length c1) l1 from Kd.V_mono hs1 (fun k_ hk => .inl hk))
  have HB := Aside0.mk (Below.refl w.heap.size w)
  have H : ((rsa_oid.f a0).bind fun t138 => ((der_PutOid.f t138).bind fun bt139 => ((der_Put.f 0 6 false (([bt139.1] : List (List Int)))).bind fun bt146 => ((der_Put.f 0 5 false ([] : List (List Int))).bind fun bt150 => ((der_Put.f 0 16 true (([bt146.1, bt150.1] : List (List Int)))).bind fun bt157 => ((der_Put.f 0 4 false (([l1] : List (List Int)))).bind fun bt164 => ((der_Put.f 0 16 true (([bt157.1, bt164.1] : List (List Int)))).bind fun bt171 => (some bt171.1)))))))) = some r := h
  clear h
  replace H := Option.bind_eq_some_iff.mp H
  obtain ⟨t138, A30, H⟩ := H
  replace H : ((der_PutOid.f t138).bind fun bt139 => ((der_Put.f 0 6 false (([bt139.1] : List (List Int)))).bind fun bt146 => ((der_Put.f 0 5 false ([] : List (List Int))).bind fun bt150 => ((der_Put.f 0 16 true (([bt146.1, bt150.1] : List (List Int)))).bind fun bt157 => ((der_Put.f 0 4 false (([l1] : List (List Int)))).bind fun bt164 => ((der_Put.f 0 16 true (([bt157.1, bt164.1] : List (List Int)))).bind fun bt171 => (some bt171.1))))))) = some r := H
  have A3 := Aside0.mk A30
  clear A30
  replace H := Option.bind_eq_some_iff.mp H
  obtain ⟨⟨t139, t140⟩, A40, H⟩ := H
  replace H : ((der_Put.f 0 6 false (([t139] : List (List Int)))).bind fun bt146 => ((der_Put.f 0 5 false ([] : List (List Int))).bind fun bt150 => ((der_Put.f 0 16 true (([bt146.1, bt150.1] : List (List Int)))).bind fun bt157 => ((der_Put.f 0 4 false (([l1] : List (List Int)))).bind fun bt164 => ((der_Put.f 0 16 true (([bt157.1, bt164.1] : List (List Int)))).bind fun bt171 => (some bt171.1)))))) = some r := H
  have A4 := Aside0.mk A40
  clear A40
  obtain ⟨y143, hy143⟩ : ∃ y_ : List (List Int), y_ = (([t139] : List (List Int))) := ⟨_, rfl⟩
  replace H : ((der_Put.f 0 6 false y143).bind fun bt146 => ((der_Put.f 0 5 false ([] : List (List Int))).bind fun bt150 => ((der_Put.f 0 16 true (([bt146.1, bt150.1] : List (List Int)))).bind fun bt157 => ((der_Put.f 0 4 false (([l1] : List (List Int)))).bind fun bt164 => ((der_Put.f 0 16 true (([bt157.1, bt164.1] : List (List Int)))).bind fun bt171 => (some bt171.1)))))) = some r := by first | (rw [hy143]; with_reducible exact H) | (have H2_ := (Option.bind_some _ _).symm.trans H; rw [hy143]; with_reducible exact H2_) | (have H2_ := (Option.bind_some _ _).symm.trans H; with_reducible exact H2_) | with_reducible exact H | (rw [hy143]; exact H) | exact H
  have Ny143 := Aside0.mk hy143
  clear hy143
  replace H := Option.bind_eq_some_iff.mp H
  obtain ⟨⟨t146, t147⟩, A50, H⟩ := H
  replace H : ((der_Put.f 0 5 false ([] : List (List Int))).bind fun bt150 => ((der_Put.f 0 16 true (([t146, bt150.1] : List (List Int)))).bind fun bt157 => ((der_Put.f 0 4 false (([l1] : List (List Int)))).bind fun bt164 => ((der_Put.f 0 16 true (([bt157.1, bt164.1] : List (List Int)))).bind fun bt171 => (some bt171.1))))) = some r := H
  have A5 := Aside0.mk A50
  clear A50
  replace H := Option.bind_eq_some_iff.mp H
  obtain ⟨⟨t150, t151⟩, A60, H⟩ := H
  replace H : ((der_Put.f 0 16 true (([t146, t150] : List (List Int)))).bind fun bt157 => ((der_Put.f 0 4 false (([l1] : List (List Int)))).bind fun bt164 => ((der_Put.f 0 16 true (([bt157.1, bt164.1] : List (List Int)))).bind fun bt171 => (some bt171.1)))) = some r := H
  have A6 := Aside0.mk A60
  clear A60
  obtain ⟨y154, hy154⟩ : ∃ y_ : List (List Int), y_ = (([t146, t150] : List (List Int))) := ⟨_, rfl⟩
  replace H : ((der_Put.f 0 16 true y154).bind fun bt157 => ((der_Put.f 0 4 false (([l1] : List (List Int)))).bind fun bt164 => ((der_Put.f 0 16 true (([bt157.1, bt164.1] : List (List Int)))).bind fun bt171 => (some bt171.1)))) = some r := by first | (rw [hy154]; with_reducible exact H) | (have H2_ := (Option.bind_some _ _).symm.trans H; rw [hy154]; with_reducible exact H2_) | (have H2_ := (Option.bind_some _ _).symm.trans H; with_reducible exact H2_) | with_reducible exact H | (rw [hy154]; exact H) | exact H
  have Ny154 := Aside0.mk hy154
  clear hy154
  replace H := Option.bind_eq_some_iff.mp H
  obtain ⟨⟨t157, t158⟩, A70, H⟩ := H
  replace H : ((der_Put.f 0 4 false (([l1] : List (List Int)))).bind fun bt164 => ((der_Put.f 0 16 true (([t157, bt164.1] : List (List Int)))).bind fun bt171 => (some bt171.1))) = some r := H
  have A7 := Aside0.mk A70
  clear A70
  obtain ⟨y161, hy161⟩ : ∃ y_ : List (List Int), y_ = (([l1] : List (List Int))) := ⟨_, rfl⟩
  replace H : ((der_Put.f 0 4 false y161).bind fun bt164 => ((der_Put.f 0 16 true (([t157, bt164.1] : List (List Int)))).bind fun bt171 => (some bt171.1))) = some r := by first | (rw [hy161]; with_reducible exact H) | (have H2_ := (Option.bind_some _ _).symm.trans H; rw [hy161]; with_reducible exact H2_) | (have H2_ := (Option.bind_some _ _).symm.trans H; with_reducible exact H2_) | with_reducible exact H | (rw [hy161]; exact H) | exact H
  have Ny161 := Aside0.mk hy161
  clear hy161
  replace H := Option.bind_eq_some_iff.mp H
  obtain ⟨⟨t164, t165⟩, A80, H⟩ := H
  replace H : ((der_Put.f 0 16 true (([t157, t164] : List (List Int)))).bind fun bt171 => (some bt171.1)) = some r := H
  have A8 := Aside0.mk A80
  clear A80
  obtain ⟨y168, hy168⟩ : ∃ y_ : List (List Int), y_ = (([t157, t164] : List (List Int))) := ⟨_, rfl⟩
  replace H : ((der_Put.f 0 16 true y168).bind fun bt171 => (some bt171.1)) = some r := by first | (rw [hy168]; with_reducible exact H) | (have H2_ := (Option.bind_some _ _).symm.trans H; rw [hy168]; with_reducible exact H2_) | (have H2_ := (Option.bind_some _ _).symm.trans H; with_reducible exact H2_) | with_reducible exact H | (rw [hy168]; exact H) | exact H
  have Ny168 := Aside0.mk hy168
  clear hy168
  replace H := Option.bind_eq_some_iff.mp H
  obtain ⟨⟨t171, t172⟩, A90, H⟩ := H
  replace H : (some t171) = some r := H
  have A9 := Aside0.mk A90
  clear A90
  obtain rfl := Option.some.inj H
  go_enter Tryd.func32, Tryd.ntmps32
  go_wp2_with (first | ((with_reducible refine gate_callee (f := 57) rfl ?_); refine goesL_ (some 19) rfl rfl Tryd.func57 (by kernel_rfl) rfl #[.int .i64 a0] rfl (by (try simp only [List.map_toArray, List.map_cons, List.map_nil]); first | done | rfl | (simp only [List.length_drop, List.length_take]; rfl)) ?_; (with_reducible refine (rsa_oid.calls a0 t138 _ A3.out).mono ?_); rintro e w' ⟨rfl, ⟨nd, rfl⟩⟩; refine ⟨_, rfl, ?_⟩) | ((with_reducible refine gate_callee (f := 56) rfl ?_); refine goesL_ (some 20) rfl rfl Tryd.func56 (by kernel_rfl) rfl #[.string t138] rfl (by (try simp only [List.map_toArray, List.map_cons, List.map_nil]); first | done | rfl | (simp only [List.length_drop, List.length_take]; rfl)) ?_; (with_reducible refine (der_PutOid.calls t138 t139 t140 _ A4.out).mono ?_); rintro e w10 ⟨v141, rfl, ho0, hb⟩; refine ⟨_, rfl, ?_⟩; have n0_ := Aside0.mk (Kd.V_elder' (by (with_reducible repeat (first | apply Kd.V_alloc | apply Kd.V_drewN | apply Kd.V_drew)); exact HO1.out) (Kd.R_base ho0) hb); have n1_ := Aside0.mk (Kd.R_lower (Kd.R_newM (M := fun k_ => (w.heap.size ≤ k_)) ho0 (below_size (by repeat (first | (with_reducible first | exact HB.out | apply below_alloc | apply pw_below_drewN | apply below_drew1) | exact HB.out))) (fun k_ h_ => h_)) (below_size (by repeat (first | (with_reducible first | exact HB.out | apply below_alloc | apply pw_below_drewN | apply below_drew1) | exact HB.out)))); have n2_ := Aside0.mk (below_step (by repeat (first | (with_reducible first | exact HB.out | apply below_alloc | apply pw_below_drewN | apply below_drew1) | exact HB.out)) hb); clear HO1; clear HB; have HO1 := n0_; have HO142 := n1_; have HB := n2_; clear n0_ n1_ n2_; (try clear hb); (try clear hb2); (try clear hk); (try clear hi); (try clear ho0); obtain ⟨Ao11, co11, eo11⟩ := Kd.R_slice HO142.out; subst eo11) | ((with_reducible refine gate_dst (N := 25) rfl ?_); refine Kd.N_lit (Kd.slice 5 (Kd.int .u8)) _ 31 ?hg (N' := 25) ?hd (xs := ([t139] : List (List Int))) (inner := [.slice Ao11 t139.length co11]) (ok := (fun k_ => (P1_ k_ ∨ w.heap.size ≤ k_))) (okp := (fun k_ => (P1_ k_ ∨ w.heap.size ≤ k_))) ?hr ?hp (fun _ hk => hk) ((show ∀ k_, w10.heap.size ≤ k_ → (fun k_ => (P1_ k_ ∨ w.heap.size ≤ k_)) k_ from fun k_ hk => (.inr (Nat.le_trans (below_size (by repeat (first | (with_reducible first | exact HB.out | apply below_alloc | apply pw_below_drewN | apply below_drew1) | exact HB.out))) hk))) _ (Nat.le_refl _)) (Below.refl _ _) (Nat.le_refl _) (by simp) ?_; (case hd => rfl); (case hg => rfl); (case hr => first | (go_simp; done) | (go_simp; rfl)); (case hp => exact (Reps.one (show Kd.FK (Kd.slice 5 (Kd.int .u8)) _ _ t139 [.slice Ao11 t139.length co11] from (Kd.FK_slice_mk (Kd.R_reads' (Kd.R_mono (ok' := (fun k_ => (P1_ k_ ∨ w.heap.size ≤ k_))) (HO142.out) (fun k_ hk => (.inr (hk.1))))).2.1 (Kd.R_F (Kd.R_mono (ok' := (fun k_ => (P1_ k_ ∨ w.heap.size ≤ k_))) (HO142.out) (fun k_ hk => (.inr (hk.1))))))) (Reps.none _ _))); intro v144 w12 ho13 hb hg_ hnew_; clear hg_ hnew_; (first | rw [← Ny143.out] at ho13 | (simp only [Int.reduceToNat] at ho13; rw [← Ny143.out] at ho13)); have n0_ := Aside0.mk (Kd.V_elder' (by (with_reducible repeat (first | apply Kd.V_alloc | apply Kd.V_drewN | apply Kd.V_drew)); exact HO1.out) (Kd.N_base ho13) hb); have n1_ := Aside0.mk (Kd.N_lower ho13 (below_size (by repeat (first | (with_reducible first | exact HB.out | apply below_alloc | apply pw_below_drewN | apply below_drew1) | exact HB.out)))); have n2_ := Aside0.mk (below_step (by repeat (first | (with_reducible first | exact HB.out | apply below_alloc | apply pw_below_drewN | apply below_drew1) | exact HB.out)) hb); clear HO1; clear HB; clear HO142; have HO1 := n0_; have HO145 := n1_; have HB := n2_; clear n0_ n1_ n2_; clear hb ho13; obtain ⟨Ao14, co14, eo14⟩ := Kd.N_slice HO145.out; subst eo14) | ((with_reducible refine gate_callee (f := 58) rfl ?_); refine goesL_ (some 26) rfl rfl Tryd.func58 (by kernel_rfl) rfl #[.int .i64 0, .int .i64 6, .bool false, .slice Ao14 y143.length co14] rfl (by (try simp only [List.map_toArray, List.map_cons, List.map_nil]); first | done | rfl | (simp only [List.length_drop, List.length_take]; rfl)) ?_; (with_reducible refine (der_Put.calls 0 6 false _ _ y143 t146 t147 _ ?side1 ?side2 A5.out).mono ?_); (case side1 => repeat (first | exact (Kd.N_reads' HO145.out).2.2 | (with_reducible refine Kd.C_alloc ?_ _) | (with_reducible refine Kd.C_drewN ?_ _) | (with_reducible refine Kd.C_drew ?_))); (case side2 => exact (Kd.N_reads' HO145.out).2.1); rintro e w15 ⟨v148, rfl, ho0, hb⟩; refine ⟨_, rfl, ?_⟩; have n0_ := Aside0.mk (Kd.V_elder' (by (with_reducible repeat (first | apply Kd.V_alloc | apply Kd.V_drewN | apply Kd.V_drew)); exact HO1.out) (Kd.R_base ho0) hb); have n1_ := Aside0.mk (Kd.N_elder' (by (with_reducible repeat (first | apply Kd.N_alloc | apply Kd.N_drewN | apply Kd.N_drew)); exact HO145.out) (Kd.R_base ho0) hb); have n2_ := Aside0.mk (Kd.R_lower (Kd.R_newM (M := fun k_ => (w.heap.size ≤ k_)) ho0 (below_size (by repeat (first | (with_reducible first | exact HB.out | apply below_alloc | apply pw_below_drewN | apply below_drew1) | exact HB.out))) (fun k_ h_ => h_)) (below_size (by repeat (first | (with_reducible first | exact HB.out | apply below_alloc | apply pw_below_drewN | apply below_drew1) | exact HB.out)))); have n3_ := Aside0.mk (below_step (by repeat (first | (with_reducible first | exact HB.out | apply below_alloc | apply pw_below_drewN | apply below_drew1) | exact HB.out)) hb); clear HO1; clear HO145; clear HB; have HO1 := n0_; have HO145 := n1_; have HO149 := n2_; have HB := n3_; clear n0_ n1_ n2_ n3_; (try clear hb); (try clear hb2); (try clear hk); (try clear hi); (try clear ho0)) | ((with_reducible refine gate_callee (f := 58) rfl ?_); refine goesL_ (some 30) rfl rfl Tryd.func58 (by kernel_rfl) rfl #[.int .i64 0, .int .i64 5, .bool false, .slice none 0 0] rfl (by (try simp only [List.map_toArray, List.map_cons, List.map_nil]); first | done | rfl | (simp only [List.length_drop, List.length_take]; rfl)) ?_; (refine (der_Put.calls 0 5 false _ _ ([] : List (List Int)) t150 t151 _ ?side1 ?side2 A6.out).mono ?_); (case side1 => exact Kd.C_nil _ _); (case side2 => exact Nat.le_refl _); rintro e w16 ⟨v152, rfl, ho0, hb⟩; refine ⟨_, rfl, ?_⟩; have n0_ := Aside0.mk (Kd.V_elder' (by (with_reducible repeat (first | apply Kd.V_alloc | apply Kd.V_drewN | apply Kd.V_drew)); exact HO1.out) (Kd.R_base ho0) hb); have n1_ := Aside0.mk (Kd.N_elder' (by (with_reducible repeat (first | apply Kd.N_alloc | apply Kd.N_drewN | apply Kd.N_drew)); exact HO145.out) (Kd.R_base ho0) hb); have n2_ := Aside0.mk (Kd.R_elder' (by (with_reducible repeat (first | apply Kd.R_alloc | apply Kd.R_drewN | apply Kd.R_drew)); exact HO149.out) (Kd.R_base ho0) hb); have n3_ := Aside0.mk (Kd.R_lower (Kd.R_new' (Kd.R_newM (M := fun k_ => (w.heap.size ≤ k_)) ho0 (below_size (by repeat (first | (with_reducible first | exact HB.out | apply below_alloc | apply pw_below_drewN | apply below_drew1) | exact HB.out))) (fun k_ h_ => h_)) (Kd.R_lt (by (with_reducible repeat (first | apply Kd.R_alloc | apply Kd.R_drewN | apply Kd.R_drew)); exact HO149.out))) (below_size (by repeat (first | (with_reducible first | exact HB.out | apply below_alloc | apply pw_below_drewN | apply below_drew1) | exact HB.out)))); have n4_ := Aside0.mk (below_step (by repeat (first | (with_reducible first | exact HB.out | apply below_alloc | apply pw_below_drewN | apply below_drew1) | exact HB.out)) hb); clear HO1; clear HO145; clear HO149; clear HB; have HO1 := n0_; have HO145 := n1_; have HO149 := n2_; have HO153 := n3_; have HB := n4_; clear n0_ n1_ n2_ n3_ n4_; (try clear hb); (try clear hb2); (try clear hk); (try clear hi); (try clear ho0); obtain ⟨Ao17, co17, eo17⟩ := Kd.R_slice HO149.out; subst eo17; obtain ⟨Ao18, co18, eo18⟩ := Kd.R_slice HO153.out; subst eo18) | ((with_reducible refine gate_dst (N := 36) rfl ?_); refine Kd.N_lit (Kd.slice 5 (Kd.int .u8)) _ 31 ?hg (N' := 36) ?hd (xs := ([t146, t150] : List (List Int))) (inner := [.slice Ao17 t146.length co17, .slice Ao18 t150.length co18]) (ok := (fun k_ => (P1_ k_ ∨ w.heap.size ≤ k_) ∧ some k_ ≠ (.slice Ao14 y143.length co14 : Value).ownBlock)) (okp := (fun k_ => (P1_ k_ ∨ w.heap.size ≤ k_) ∧ some k_ ≠ (.slice Ao14 y143.length co14 : Value).ownBlock)) ?hr ?hp (fun _ hk => hk) ((show ∀ k_, w16.heap.size ≤ k_ → (fun k_ => (P1_ k_ ∨ w.heap.size ≤ k_) ∧ some k_ ≠ (.slice Ao14 y143.length co14 : Value).ownBlock) k_ from fun k_ hk => ⟨(.inr (Nat.le_trans (below_size (by repeat (first | (with_reducible first | exact HB.out | apply below_alloc | apply pw_below_drewN | apply below_drew1) | exact HB.out))) hk)), Kd.fresh' (Kd.N_lt (by (with_reducible repeat (first | apply Kd.N_alloc | apply Kd.N_drewN | apply Kd.N_drew)); exact HO145.out)) k_ hk⟩) _ (Nat.le_refl _)) (Below.refl _ _) (Nat.le_refl _) (by simp) ?_; (case hd => rfl); (case hg => rfl); (case hr => first | (go_simp; done) | (go_simp; rfl)); (case hp => exact (Reps.one (show Kd.FK (Kd.slice 5 (Kd.int .u8)) _ _ t146 [.slice Ao17 t146.length co17] from (Kd.FK_slice_mk (Kd.R_reads' (Kd.R_mono (ok' := (fun k_ => (P1_ k_ ∨ w.heap.size ≤ k_) ∧ some k_ ≠ (.slice Ao14 y143.length co14 : Value).ownBlock)) (Kd.R_apart' (HO149.out) (Kd.N_typed HO145.out) (by decide)) (fun k_ hk => ⟨(.inr (hk.1.1.1)), hk.2⟩))).2.1 (Kd.R_F (Kd.R_mono (ok' := (fun k_ => (P1_ k_ ∨ w.heap.size ≤ k_) ∧ some k_ ≠ (.slice Ao14 y143.length co14 : Value).ownBlock)) (Kd.R_apart' (HO149.out) (Kd.N_typed HO145.out) (by decide)) (fun k_ hk => ⟨(.inr (hk.1.1.1)), hk.2⟩))))) (Reps.one (show Kd.FK (Kd.slice 5 (Kd.int .u8)) _ _ t150 [.slice Ao18 t150.length co18] from (Kd.FK_slice_mk (Kd.R_reads' (Kd.R_mono (ok' := (fun k_ => (P1_ k_ ∨ w.heap.size ≤ k_) ∧ some k_ ≠ (.slice Ao14 y143.length co14 : Value).ownBlock)) (Kd.R_apart' (HO153.out) (Kd.N_typed HO145.out) (by decide)) (fun k_ hk => ⟨(.inr (hk.1.1.1)), hk.2⟩))).2.1 (Kd.R_F (Kd.R_mono (ok' := (fun k_ => (P1_ k_ ∨ w.heap.size ≤ k_) ∧ some k_ ≠ (.slice Ao14 y143.length co14 : Value).ownBlock)) (Kd.R_apart' (HO153.out) (Kd.N_typed HO145.out) (by decide)) (fun k_ hk => ⟨(.inr (hk.1.1.1)), hk.2⟩))))) (Reps.none _ _)))); intro v155 w19 ho20 hb hg_ hnew_; clear hg_ hnew_; (first | rw [← Ny154.out] at ho20 | (simp only [Int.reduceToNat] at ho20; rw [← Ny154.out] at ho20)); have n0_ := Aside0.mk (Kd.V_elder' (by (with_reducible repeat (first | apply Kd.V_alloc | apply Kd.V_drewN | apply Kd.V_drew)); exact HO1.out) (Kd.N_base ho20) hb); have n1_ := Aside0.mk (Kd.N_elder' (by (with_reducible repeat (first | apply Kd.N_alloc | apply Kd.N_drewN | apply Kd.N_drew)); exact HO145.out) (Kd.N_base ho20) hb); have n2_ := Aside0.mk (Kd.N_lower ho20 (below_size (by repeat (first | (with_reducible first | exact HB.out | apply below_alloc | apply pw_below_drewN | apply below_drew1) | exact HB.out)))); have n3_ := Aside0.mk (below_step (by repeat (first | (with_reducible first | exact HB.out | apply below_alloc | apply pw_below_drewN | apply below_drew1) | exact HB.out)) hb); clear HO1; clear HO145; clear HB; clear HO149; clear HO153; have HO1 := n0_; have HO145 := n1_; have HO156 := n2_; have HB := n3_; clear n0_ n1_ n2_ n3_; clear hb ho20; obtain ⟨Ao21, co21, eo21⟩ := Kd.N_slice HO156.out; subst eo21) | ((with_reducible refine gate_callee (f := 58) rfl ?_); refine goesL_ (some 37) rfl rfl Tryd.func58 (by kernel_rfl) rfl #[.int .i64 0, .int .i64 16, .bool true, .slice Ao21 y154.length co21] rfl (by (try simp only [List.map_toArray, List.map_cons, List.map_nil]); first | done | rfl | (simp only [List.length_drop, List.length_take]; rfl)) ?_; (with_reducible refine (der_Put.calls 0 16 true _ _ y154 t157 t158 _ ?side1 ?side2 A7.out).mono ?_); (case side1 => repeat (first | exact (Kd.N_reads' HO156.out).2.2 | (with_reducible refine Kd.C_alloc ?_ _) | (with_reducible refine Kd.C_drewN ?_ _) | (with_reducible refine Kd.C_drew ?_))); (case side2 => exact (Kd.N_reads' HO156.out).2.1); rintro e w22 ⟨v159, rfl, ho0, hb⟩; refine ⟨_, rfl, ?_⟩; have n0_ := Aside0.mk (Kd.V_elder' (by (with_reducible repeat (first | apply Kd.V_alloc | apply Kd.V_drewN | apply Kd.V_drew)); exact HO1.out) (Kd.R_base ho0) hb); have n1_ := Aside0.mk (Kd.N_elder' (by (with_reducible repeat (first | apply Kd.N_alloc | apply Kd.N_drewN | apply Kd.N_drew)); exact HO145.out) (Kd.R_base ho0) hb); have n2_ := Aside0.mk (Kd.N_elder' (by (with_reducible repeat (first | apply Kd.N_alloc | apply Kd.N_drewN | apply Kd.N_drew)); exact HO156.out) (Kd.R_base ho0) hb); have n3_ := Aside0.mk (Kd.R_lower (Kd.R_newM (M := fun k_ => (w.heap.size ≤ k_)) ho0 (below_size (by repeat (first | (with_reducible first | exact HB.out | apply below_alloc | apply pw_below_drewN | apply below_drew1) | exact HB.out))) (fun k_ h_ => h_)) (below_size (by repeat (first | (with_reducible first | exact HB.out | apply below_alloc | apply pw_below_drewN | apply below_drew1) | exact HB.out)))); have n4_ := Aside0.mk (below_step (by repeat (first | (with_reducible first | exact HB.out | apply below_alloc | apply pw_below_drewN | apply below_drew1) | exact HB.out)) hb); clear HO1; clear HO145; clear HO156; clear HB; have HO1 := n0_; have HO145 := n1_; have HO156 := n2_; have HO160 := n3_; have HB := n4_; clear n0_ n1_ n2_ n3_ n4_; (try clear hb); (try clear hb2); (try clear hk); (try clear hi); (try clear ho0)) | ((with_reducible refine gate_dst (N := 42) rfl ?_); refine Kd.N_lit (Kd.slice 5 (Kd.int .u8)) _ 31 ?hg (N' := 42) ?hd (xs := ([l1] : List (List Int))) (inner := [.slice A1 l1.length c1]) (ok := (fun k_ => (P1_ k_ ∨ w.heap.size ≤ k_) ∧ some k_ ≠ (.slice Ao14 y143.length co14 : Value).ownBlock ∧ some k_ ≠ (.slice Ao21 y154.length co21 : Value).ownBlock ∧ some k_ ≠ (v159 : Value).ownBlock)) (okp := (fun k_ => (P1_ k_ ∨ w.heap.size ≤ k_) ∧ some k_ ≠ (.slice Ao14 y143.length co14 : Value).ownBlock ∧ some k_ ≠ (.slice Ao21 y154.length co21 : Value).ownBlock ∧ some k_ ≠ (v159 : Value).ownBlock)) ?hr ?hp (fun _ hk => hk) ((show ∀ k_, w22.heap.size ≤ k_ → (fun k_ => (P1_ k_ ∨ w.heap.size ≤ k_) ∧ some k_ ≠ (.slice Ao14 y143.length co14 : Value).ownBlock ∧ some k_ ≠ (.slice Ao21 y154.length co21 : Value).ownBlock ∧ some k_ ≠ (v159 : Value).ownBlock) k_ from fun k_ hk => ⟨(.inr (Nat.le_trans (below_size (by repeat (first | (with_reducible first | exact HB.out | apply below_alloc | apply pw_below_drewN | apply below_drew1) | exact HB.out))) hk)), Kd.fresh' (Kd.N_lt (by (with_reducible repeat (first | apply Kd.N_alloc | apply Kd.N_drewN | apply Kd.N_drew)); exact HO145.out)) k_ hk, Kd.fresh' (Kd.N_lt (by (with_reducible repeat (first | apply Kd.N_alloc | apply Kd.N_drewN | apply Kd.N_drew)); exact HO156.out)) k_ hk, Kd.fresh' (Kd.R_lt (by (with_reducible repeat (first | apply Kd.R_alloc | apply Kd.R_drewN | apply Kd.R_drew)); exact HO160.out)) k_ hk⟩) _ (Nat.le_refl _)) (Below.refl _ _) (Nat.le_refl _) (by simp) ?_; (case hd => rfl); (case hg => rfl); (case hr => first | (go_simp; done) | (go_simp; rfl)); (case hp => exact (Reps.one (show Kd.FK (Kd.slice 5 (Kd.int .u8)) _ _ l1 [.slice A1 l1.length c1] from (Kd.FK_slice_mk (Kd.V_reads' (Kd.V_mono (ok' := (fun k_ => (P1_ k_ ∨ w.heap.size ≤ k_) ∧ some k_ ≠ (.slice Ao14 y143.length co14 : Value).ownBlock ∧ some k_ ≠ (.slice Ao21 y154.length co21 : Value).ownBlock ∧ some k_ ≠ (v159 : Value).ownBlock)) (HO1.out) (fun k_ hk => ⟨hk.1.1.1.1.1.1, ⟨hk.1.1.1.1.2, ⟨hk.1.2, hk.2⟩⟩⟩))).2.1 (Kd.V_F (Kd.V_mono (ok' := (fun k_ => (P1_ k_ ∨ w.heap.size ≤ k_) ∧ some k_ ≠ (.slice Ao14 y143.length co14 : Value).ownBlock ∧ some k_ ≠ (.slice Ao21 y154.length co21 : Value).ownBlock ∧ some k_ ≠ (v159 : Value).ownBlock)) (HO1.out) (fun k_ hk => ⟨hk.1.1.1.1.1.1, ⟨hk.1.1.1.1.2, ⟨hk.1.2, hk.2⟩⟩⟩))))) (Reps.none _ _))); intro v162 w23 ho24 hb hg_ hnew_; clear hg_ hnew_; (first | rw [← Ny161.out] at ho24 | (simp only [Int.reduceToNat] at ho24; rw [← Ny161.out] at ho24)); have n0_ := Aside0.mk (Kd.V_elder' (by (with_reducible repeat (first | apply Kd.V_alloc | apply Kd.V_drewN | apply Kd.V_drew)); exact HO1.out) (Kd.N_base ho24) hb); have n1_ := Aside0.mk (Kd.N_elder' (by (with_reducible repeat (first | apply Kd.N_alloc | apply Kd.N_drewN | apply Kd.N_drew)); exact HO145.out) (Kd.N_base ho24) hb); have n2_ := Aside0.mk (Kd.N_elder' (by (with_reducible repeat (first | apply Kd.N_alloc | apply Kd.N_drewN | apply Kd.N_drew)); exact HO156.out) (Kd.N_base ho24) hb); have n3_ := Aside0.mk (Kd.R_below (by (with_reducible repeat (first | apply Kd.R_alloc | apply Kd.R_drewN | apply Kd.R_drew)); exact HO160.out) hb); have n4_ := Aside0.mk (Kd.N_lower ho24 (below_size (by repeat (first | (with_reducible first | exact HB.out | apply below_alloc | apply pw_below_drewN | apply below_drew1) | exact HB.out)))); have n5_ := Aside0.mk (below_step (by repeat (first | (with_reducible first | exact HB.out | apply below_alloc | apply pw_below_drewN | apply below_drew1) | exact HB.out)) hb); clear HO1; clear HO145; clear HO156; clear HO160; clear HB; have HO1 := n0_; have HO145 := n1_; have HO156 := n2_; have HO160 := n3_; have HO163 := n4_; have HB := n5_; clear n0_ n1_ n2_ n3_ n4_ n5_; clear hb ho24; obtain ⟨Ao25, co25, eo25⟩ := Kd.N_slice HO163.out; subst eo25) | ((with_reducible refine gate_callee (f := 58) rfl ?_); refine goesL_ (some 43) rfl rfl Tryd.func58 (by kernel_rfl) rfl #[.int .i64 0, .int .i64 4, .bool false, .slice Ao25 y161.length co25] rfl (by (try simp only [List.map_toArray, List.map_cons, List.map_nil]); first | done | rfl | (simp only [List.length_drop, List.length_take]; rfl)) ?_; (with_reducible refine (der_Put.calls 0 4 false _ _ y161 t164 t165 _ ?side1 ?side2 A8.out).mono ?_); (case side1 => repeat (first | exact (Kd.N_reads' HO163.out).2.2 | (with_reducible refine Kd.C_alloc ?_ _) | (with_reducible refine Kd.C_drewN ?_ _) | (with_reducible refine Kd.C_drew ?_))); (case side2 => exact (Kd.N_reads' HO163.out).2.1); rintro e w26 ⟨v166, rfl, ho0, hb⟩; refine ⟨_, rfl, ?_⟩; have n0_ := Aside0.mk (Kd.V_elder' (by (with_reducible repeat (first | apply Kd.V_alloc | apply Kd.V_drewN | apply Kd.V_drew)); exact HO1.out) (Kd.R_base ho0) hb); have n1_ := Aside0.mk (Kd.N_elder' (by (with_reducible repeat (first | apply Kd.N_alloc | apply Kd.N_drewN | apply Kd.N_drew)); exact HO145.out) (Kd.R_base ho0) hb); have n2_ := Aside0.mk (Kd.N_elder' (by (with_reducible repeat (first | apply Kd.N_alloc | apply Kd.N_drewN | apply Kd.N_drew)); exact HO156.out) (Kd.R_base ho0) hb); have n3_ := Aside0.mk (Kd.R_elder' (by (with_reducible repeat (first | apply Kd.R_alloc | apply Kd.R_drewN | apply Kd.R_drew)); exact HO160.out) (Kd.R_base ho0) hb); have n4_ := Aside0.mk (Kd.N_elder' (by (with_reducible repeat (first | apply Kd.N_alloc | apply Kd.N_drewN | apply Kd.N_drew)); exact HO163.out) (Kd.R_base ho0) hb); have n5_ := Aside0.mk (Kd.R_lower (Kd.R_new' (Kd.R_newM (M := fun k_ => (w.heap.size ≤ k_)) ho0 (below_size (by repeat (first | (with_reducible first | exact HB.out | apply below_alloc | apply pw_below_drewN | apply below_drew1) | exact HB.out))) (fun k_ h_ => h_)) (Kd.R_lt (by (with_reducible repeat (first | apply Kd.R_alloc | apply Kd.R_drewN | apply Kd.R_drew)); exact HO160.out))) (below_size (by repeat (first | (with_reducible first | exact HB.out | apply below_alloc | apply pw_below_drewN | apply below_drew1) | exact HB.out)))); have n6_ := Aside0.mk (below_step (by repeat (first | (with_reducible first | exact HB.out | apply below_alloc | apply pw_below_drewN | apply below_drew1) | exact HB.out)) hb); clear HO1; clear HO145; clear HO156; clear HO160; clear HO163; clear HB; have HO1 := n0_; have HO145 := n1_; have HO156 := n2_; have HO160 := n3_; have HO163 := n4_; have HO167 := n5_; have HB := n6_; clear n0_ n1_ n2_ n3_ n4_ n5_ n6_; (try clear hb); (try clear hb2); (try clear hk); (try clear hi); (try clear ho0); obtain ⟨Ao27, co27, eo27⟩ := Kd.R_slice HO160.out; subst eo27; obtain ⟨Ao28, co28, eo28⟩ := Kd.R_slice HO167.out; subst eo28) | ((with_reducible refine gate_dst (N := 49) rfl ?_); refine Kd.N_lit (Kd.slice 5 (Kd.int .u8)) _ 31 ?hg (N' := 49) ?hd (xs := ([t157, t164] : List (List Int))) (inner := [.slice Ao27 t157.length co27, .slice Ao28 t164.length co28]) (ok := (fun k_ => (P1_ k_ ∨ w.heap.size ≤ k_) ∧ some k_ ≠ (.slice Ao14 y143.length co14 : Value).ownBlock ∧ some k_ ≠ (.slice Ao21 y154.length co21 : Value).ownBlock ∧ some k_ ≠ (.slice Ao25 y161.length co25 : Value).ownBlock)) (okp := (fun k_ => (P1_ k_ ∨ w.heap.size ≤ k_) ∧ some k_ ≠ (.slice Ao14 y143.length co14 : Value).ownBlock ∧ some k_ ≠ (.slice Ao21 y154.length co21 : Value).ownBlock ∧ some k_ ≠ (.slice Ao25 y161.length co25 : Value).ownBlock)) ?hr ?hp (fun _ hk => hk) ((show ∀ k_, w26.heap.size ≤ k_ → (fun k_ => (P1_ k_ ∨ w.heap.size ≤ k_) ∧ some k_ ≠ (.slice Ao14 y143.length co14 : Value).ownBlock ∧ some k_ ≠ (.slice Ao21 y154.length co21 : Value).ownBlock ∧ some k_ ≠ (.slice Ao25 y161.length co25 : Value).ownBlock) k_ from fun k_ hk => ⟨(.inr (Nat.le_trans (below_size (by repeat (first | (with_reducible first | exact HB.out | apply below_alloc | apply pw_below_drewN | apply below_drew1) | exact HB.out))) hk)), Kd.fresh' (Kd.N_lt (by (with_reducible repeat (first | apply Kd.N_alloc | apply Kd.N_drewN | apply Kd.N_drew)); exact HO145.out)) k_ hk, Kd.fresh' (Kd.N_lt (by (with_reducible repeat (first | apply Kd.N_alloc | apply Kd.N_drewN | apply Kd.N_drew)); exact HO156.out)) k_ hk, Kd.fresh' (Kd.N_lt (by (with_reducible repeat (first | apply Kd.N_alloc | apply Kd.N_drewN | apply Kd.N_drew)); exact HO163.out)) k_ hk⟩) _ (Nat.le_refl _)) (Below.refl _ _) (Nat.le_refl _) (by simp) ?_; (case hd => rfl); (case hg => rfl); (case hr => first | (go_simp; done) | (go_simp; rfl)); (case hp => exact (Reps.one (show Kd.FK (Kd.slice 5 (Kd.int .u8)) _ _ t157 [.slice Ao27 t157.length co27] from (Kd.FK_slice_mk (Kd.R_reads' (Kd.R_mono (ok' := (fun k_ => (P1_ k_ ∨ w.heap.size ≤ k_) ∧ some k_ ≠ (.slice Ao14 y143.length co14 : Value).ownBlock ∧ some k_ ≠ (.slice Ao21 y154.length co21 : Value).ownBlock ∧ some k_ ≠ (.slice Ao25 y161.length co25 : Value).ownBlock)) (Kd.R_apart' (Kd.R_apart' (Kd.R_apart' (HO160.out) (Kd.N_typed HO145.out) (by decide)) (Kd.N_typed HO156.out) (by decide)) (Kd.N_typed HO163.out) (by decide)) (fun k_ hk => ⟨(.inr (hk.1.1.1.1.1)), ⟨hk.1.1.2, ⟨hk.1.2, hk.2⟩⟩⟩))).2.1 (Kd.R_F (Kd.R_mono (ok' := (fun k_ => (P1_ k_ ∨ w.heap.size ≤ k_) ∧ some k_ ≠ (.slice Ao14 y143.length co14 : Value).ownBlock ∧ some k_ ≠ (.slice Ao21 y154.length co21 : Value).ownBlock ∧ some k_ ≠ (.slice Ao25 y161.length co25 : Value).ownBlock)) (Kd.R_apart' (Kd.R_apart' (Kd.R_apart' (HO160.out) (Kd.N_typed HO145.out) (by decide)) (Kd.N_typed HO156.out) (by decide)) (Kd.N_typed HO163.out) (by decide)) (fun k_ hk => ⟨(.inr (hk.1.1.1.1.1)), ⟨hk.1.1.2, ⟨hk.1.2, hk.2⟩⟩⟩))))) (Reps.one (show Kd.FK (Kd.slice 5 (Kd.int .u8)) _ _ t164 [.slice Ao28 t164.length co28] from (Kd.FK_slice_mk (Kd.R_reads' (Kd.R_mono (ok' := (fun k_ => (P1_ k_ ∨ w.heap.size ≤ k_) ∧ some k_ ≠ (.slice Ao14 y143.length co14 : Value).ownBlock ∧ some k_ ≠ (.slice Ao21 y154.length co21 : Value).ownBlock ∧ some k_ ≠ (.slice Ao25 y161.length co25 : Value).ownBlock)) (Kd.R_apart' (Kd.R_apart' (Kd.R_apart' (HO167.out) (Kd.N_typed HO145.out) (by decide)) (Kd.N_typed HO156.out) (by decide)) (Kd.N_typed HO163.out) (by decide)) (fun k_ hk => ⟨(.inr (hk.1.1.1.1.1)), ⟨hk.1.1.2, ⟨hk.1.2, hk.2⟩⟩⟩))).2.1 (Kd.R_F (Kd.R_mono (ok' := (fun k_ => (P1_ k_ ∨ w.heap.size ≤ k_) ∧ some k_ ≠ (.slice Ao14 y143.length co14 : Value).ownBlock ∧ some k_ ≠ (.slice Ao21 y154.length co21 : Value).ownBlock ∧ some k_ ≠ (.slice Ao25 y161.length co25 : Value).ownBlock)) (Kd.R_apart' (Kd.R_apart' (Kd.R_apart' (HO167.out) (Kd.N_typed HO145.out) (by decide)) (Kd.N_typed HO156.out) (by decide)) (Kd.N_typed HO163.out) (by decide)) (fun k_ hk => ⟨(.inr (hk.1.1.1.1.1)), ⟨hk.1.1.2, ⟨hk.1.2, hk.2⟩⟩⟩))))) (Reps.none _ _)))); intro v169 w29 ho30 hb hg_ hnew_; clear hg_ hnew_; (first | rw [← Ny168.out] at ho30 | (simp only [Int.reduceToNat] at ho30; rw [← Ny168.out] at ho30)); have n0_ := Aside0.mk (Kd.V_elder' (by (with_reducible repeat (first | apply Kd.V_alloc | apply Kd.V_drewN | apply Kd.V_drew)); exact HO1.out) (Kd.N_base ho30) hb); have n1_ := Aside0.mk (Kd.N_elder' (by (with_reducible repeat (first | apply Kd.N_alloc | apply Kd.N_drewN | apply Kd.N_drew)); exact HO145.out) (Kd.N_base ho30) hb); have n2_ := Aside0.mk (Kd.N_elder' (by (with_reducible repeat (first | apply Kd.N_alloc | apply Kd.N_drewN | apply Kd.N_drew)); exact HO156.out) (Kd.N_base ho30) hb); have n3_ := Aside0.mk (Kd.N_elder' (by (with_reducible repeat (first | apply Kd.N_alloc | apply Kd.N_drewN | apply Kd.N_drew)); exact HO163.out) (Kd.N_base ho30) hb); have n4_ := Aside0.mk (Kd.N_lower ho30 (below_size (by repeat (first | (with_reducible first | exact HB.out | apply below_alloc | apply pw_below_drewN | apply below_drew1) | exact HB.out)))); have n5_ := Aside0.mk (below_step (by repeat (first | (with_reducible first | exact HB.out | apply below_alloc | apply pw_below_drewN | apply below_drew1) | exact HB.out)) hb); clear HO1; clear HO145; clear HO156; clear HO163; clear HB; clear HO160; clear HO167; have HO1 := n0_; have HO145 := n1_; have HO156 := n2_; have HO163 := n3_; have HO170 := n4_; have HB := n5_; clear n0_ n1_ n2_ n3_ n4_ n5_; clear hb ho30; obtain ⟨Ao31, co31, eo31⟩ := Kd.N_slice HO170.out; subst eo31) | ((with_reducible refine gate_callee (f := 58) rfl ?_); refine goesL_ (some 50) rfl rfl Tryd.func58 (by kernel_rfl) rfl #[.int .i64 0, .int .i64 16, .bool true, .slice Ao31 y168.length co31] rfl (by (try simp only [List.map_toArray, List.map_cons, List.map_nil]); first | done | rfl | (simp only [List.length_drop, List.length_take]; rfl)) ?_; (with_reducible refine (der_Put.calls 0 16 true _ _ y168 t171 t172 _ ?side1 ?side2 A9.out).mono ?_); (case side1 => repeat (first | exact (Kd.N_reads' HO170.out).2.2 | (with_reducible refine Kd.C_alloc ?_ _) | (with_reducible refine Kd.C_drewN ?_ _) | (with_reducible refine Kd.C_drew ?_))); (case side2 => exact (Kd.N_reads' HO170.out).2.1); rintro e w32 ⟨v173, rfl, ho0, hb⟩; refine ⟨_, rfl, ?_⟩; have n0_ := Aside0.mk (Kd.V_elder' (by (with_reducible repeat (first | apply Kd.V_alloc | apply Kd.V_drewN | apply Kd.V_drew)); exact HO1.out) (Kd.R_base ho0) hb); have n1_ := Aside0.mk (Kd.N_elder' (by (with_reducible repeat (first | apply Kd.N_alloc | apply Kd.N_drewN | apply Kd.N_drew)); exact HO145.out) (Kd.R_base ho0) hb); have n2_ := Aside0.mk (Kd.N_elder' (by (with_reducible repeat (first | apply Kd.N_alloc | apply Kd.N_drewN | apply Kd.N_drew)); exact HO156.out) (Kd.R_base ho0) hb); have n3_ := Aside0.mk (Kd.N_elder' (by (with_reducible repeat (first | apply Kd.N_alloc | apply Kd.N_drewN | apply Kd.N_drew)); exact HO163.out) (Kd.R_base ho0) hb); have n4_ := Aside0.mk (Kd.N_elder' (by (with_reducible repeat (first | apply Kd.N_alloc | apply Kd.N_drewN | apply Kd.N_drew)); exact HO170.out) (Kd.R_base ho0) hb); have n5_ := Aside0.mk (Kd.R_lower (Kd.R_newM (M := fun k_ => (w.heap.size ≤ k_)) ho0 (below_size (by repeat (first | (with_reducible first | exact HB.out | apply below_alloc | apply pw_below_drewN | apply below_drew1) | exact HB.out))) (fun k_ h_ => h_)) (below_size (by repeat (first | (with_reducible first | exact HB.out | apply below_alloc | apply pw_below_drewN | apply below_drew1) | exact HB.out)))); have n6_ := Aside0.mk (below_step (by repeat (first | (with_reducible first | exact HB.out | apply below_alloc | apply pw_below_drewN | apply below_drew1) | exact HB.out)) hb); clear HO1; clear HO145; clear HO156; clear HO163; clear HO170; clear HB; have HO1 := n0_; have HO145 := n1_; have HO156 := n2_; have HO163 := n3_; have HO170 := n4_; have HO174 := n5_; have HB := n6_; clear n0_ n1_ n2_ n3_ n4_ n5_ n6_; (try clear hb); (try clear hb2); (try clear hk); (try clear hi); (try clear ho0)))
  go_ret
  exact ⟨_, by first | rfl | (simp [errW_none, errW_some] <;> rfl) | (simp [*, errW_none, errW_some] <;> rfl), by (with_reducible repeat (first | apply Kd.R_alloc | apply Kd.R_drewN | apply Kd.R_drew)); exact Kd.R_mono HO174.out (fun _ hk => hk.1), by repeat (first | (with_reducible first | exact HB.out | apply below_alloc | apply pw_below_drewN | apply below_drew1) | exact HB.out)⟩

end Go.Proofs.YtdncmmipopdhbaaDoor.P
end

section
-- What the print of the kit writes for this function (through a program of mine that hands it contracts of functions that it does not take).
namespace Go.Proofs.YtdncmmipopdhbaaDoor.P
open Go.RowKit Go.Proofs.YtdncmmipopdhbaaDoorW.PrintWords Go.Proofs.YtdncmmipopdhbaaDoorW.PrintLast Go.Proofs.YtdncmmipopdhbaaDoorW.PrintMore
attribute [local go_sem] max2_int min2_int max_two min_two max_three min_three max_four min_four   -- for this text's walks alone
set_option linter.unusedVariables false
set_option linter.unusedSimpArgs false

/-! ### digest_Size: function 27 -/
def digest_Size.f (a0 : Int) : Option (Int) := if a0 = 1 then (some 20) else (if a0 = 2 then (some 32) else (if a0 = 3 then (some 48) else (if a0 = 4 then (some 64) else (some 0))))
set_option maxHeartbeats 8000000 in
set_option maxRecDepth 100000 in
theorem digest_Size.calls (a0 : Int) (r : Int) (w : World) (h : digest_Size.f a0 = some r) :
    Calls Tryd.prog 27 #[.int .i64 a0] w fun e w' => e = .returned (.int .i64 r) ∧ Drawn0 w w' := by
  have H : (if a0 = 1 then (some 20) else (if a0 = 2 then (some 32) else (if a0 = 3 then (some 48) else (if a0 = 4 then (some 64) else (some 0))))) = some r := h
  clear h
  by_cases c2 : a0 = 1
  · rw [if_pos c2] at H
    have c2b0 : (a0 == 1) = true := beq_iff_eq.mpr c2
    have c2b1 : (a0 != 1) = false := bne_eq_false_iff_eq.mpr c2
    clear c2
    obtain rfl := Option.some.inj H
    go_enter Tryd.func27, Tryd.ntmps27
    go_wp2
    go_ret
    exact ⟨by first | rfl | (simp; done) | (simp [*]; done), by repeat (first | exact Drawn0.refl _ | apply Drawn0.step)⟩
  · rw [if_neg c2] at H
    have c2b0 : (a0 == 1) = false := beq_eq_false_iff_ne.mpr c2
    have c2b1 : (a0 != 1) = true := bne_iff_ne.mpr c2
    by_cases c3 : a0 = 2
    · rw [if_pos c3] at H
      have c3b0 : (a0 == 2) = true := beq_iff_eq.mpr c3
      have c3b1 : (a0 != 2) = false := bne_eq_false_iff_eq.mpr c3
      clear c3
      obtain rfl := Option.some.inj H
      go_enter Tryd.func27, Tryd.ntmps27
      go_wp2
      go_ret
      exact ⟨by first | rfl | (simp; done) | (simp [*]; done), by repeat (first | exact Drawn0.refl _ | apply Drawn0.step)⟩
    · rw [if_neg c3] at H
      have c3b0 : (a0 == 2) = false := beq_eq_false_iff_ne.mpr c3
      have c3b1 : (a0 != 2) = true := bne_iff_ne.mpr c3
      by_cases c4 : a0 = 3
      · rw [if_pos c4] at H
        have c4b0 : (a0 == 3) = true := beq_iff_eq.mpr c4
        have c4b1 : (a0 != 3) = false := bne_eq_false_iff_eq.mpr c4
        clear c4
        obtain rfl := Option.some.inj H
        go_enter Tryd.func27, Tryd.ntmps27
        go_wp2
        go_ret
        exact ⟨by first | rfl | (simp; done) | (simp [*]; done), by repeat (first | exact Drawn0.refl _ | apply Drawn0.step)⟩
      · rw [if_neg c4] at H
        have c4b0 : (a0 == 3) = false := beq_eq_false_iff_ne.mpr c4
        have c4b1 : (a0 != 3) = true := bne_iff_ne.mpr c4
        by_cases c5 : a0 = 4
        · rw [if_pos c5] at H
          have c5b0 : (a0 == 4) = true := beq_iff_eq.mpr c5
          have c5b1 : (a0 != 4) = false := bne_eq_false_iff_eq.mpr c5
          clear c5
          obtain rfl := Option.some.inj H
          go_enter Tryd.func27, Tryd.ntmps27
          go_wp2
          go_ret
          exact ⟨by first | rfl | (simp; done) | (simp [*]; done), by repeat (first | exact Drawn0.refl _ | apply Drawn0.step)⟩
        · rw [if_neg c5] at H
          have c5b0 : (a0 == 4) = false := beq_eq_false_iff_ne.mpr c5
          have c5b1 : (a0 != 4) = true := bne_iff_ne.mpr c5
          obtain rfl := Option.some.inj H
          go_enter Tryd.func27, Tryd.ntmps27
          go_wp2
          go_ret
          exact ⟨by first | rfl | (simp; done) | (simp [*]; done), by repeat (first | exact Drawn0.refl _ | apply Drawn0.step)⟩

end Go.Proofs.YtdncmmipopdhbaaDoor.P
end

section
-- What the print of the kit writes for this function (through a program of mine that hands it contracts of functions that it does not take).
namespace Go.Proofs.YtdncmmipopdhbaaDoor.P
open Go.RowKit Go.Proofs.YtdncmmipopdhbaaDoorW.PrintWords Go.Proofs.YtdncmmipopdhbaaDoorW.PrintLast Go.Proofs.YtdncmmipopdhbaaDoorW.PrintMore
attribute [local go_sem] max2_int min2_int max_two min_two max_three min_three max_four min_four   -- for this text's walks alone
set_option linter.unusedVariables false
set_option linter.unusedSimpArgs false

/-! ### rsa_known: function 31 -/
def rsa_known.f (a0 : Int) (l1 : List Int) : Option (Bool) := (digest_Size.f a0).bind fun t116 => (if t116 > 0 then ((digest_Size.f a0).bind fun t117 => (some ((l1.length : Int) == t117))) else (some false))
set_option maxHeartbeats 8000000 in
set_option maxRecDepth 100000 in
theorem rsa_known.calls (a0 : Int) (A1 : Option Addr) (c1 : Nat) (l1 : List Int) (r : Bool) (w : World) (hr1 : Kd.C (Kd.int .u8) w A1 l1.length l1) (hc1 : l1.length ≤ c1) (h : rsa_known.f a0 l1 = some r) :
    Calls Tryd.prog 31 #[.int .i64 a0, .slice A1 l1.length c1] w fun e w' => e = .returned (.bool r) ∧ Drawn0 w w' := by
  have HR1 := Aside0.mk hr1
  have HC1 := Aside0.mk hc1
  clear hr1 hc1
  have H : ((digest_Size.f a0).bind fun t116 => (if t116 > 0 then ((digest_Size.f a0).bind fun t117 => (some ((l1.length : Int) == t117))) else (some false))) = some r := h
  clear h
  replace H := Option.bind_eq_some_iff.mp H
  obtain ⟨t116, A30, H⟩ := H
  replace H : (if t116 > 0 then ((digest_Size.f a0).bind fun t117 => (some ((l1.length : Int) == t117))) else (some false)) = some r := H
  have A3 := Aside0.mk A30
  clear A30
  by_cases c4 : t116 > 0
  · rw [if_pos c4] at H
    have c4b0 : decide (0 < t116) = true := decide_eq_true c4
    clear c4
    replace H := Option.bind_eq_some_iff.mp H
    obtain ⟨t117, A50, H⟩ := H
    replace H : (some ((l1.length : Int) == t117)) = some r := H
    have A5 := Aside0.mk A50
    clear A50
    obtain rfl := Option.some.inj H
    go_enter Tryd.func31, Tryd.ntmps31
    have tk0_ : True := trivial
    go_wp2_with (first | ((with_reducible refine gate_callee (f := 27) rfl ?_); (have z_ := tk0_); clear tk0_; refine goesL_ (some 6) rfl rfl Tryd.func27 (by kernel_rfl) rfl #[.int .i64 a0] rfl (by (try simp only [List.map_toArray, List.map_cons, List.map_nil]); first | done | rfl | (simp only [List.length_drop, List.length_take]; rfl)) ?_; (with_reducible refine (digest_Size.calls a0 t116 _ A3.out).mono ?_); rintro e w' ⟨rfl, ⟨nd, rfl⟩⟩; refine ⟨_, rfl, ?_⟩) | (go_at_call 27; (with_reducible refine (digest_Size.calls a0 t117 _ A5.out).mono ?_); rintro e w' ⟨rfl, ⟨nd, rfl⟩⟩))
    go_ret
    exact ⟨by first | rfl | (simp; done) | (simp [*]; done), by repeat (first | exact Drawn0.refl _ | apply Drawn0.step)⟩
  · rw [if_neg c4] at H
    have c4b0 : decide (0 < t116) = false := decide_eq_false c4
    clear c4
    obtain rfl := Option.some.inj H
    go_enter Tryd.func31, Tryd.ntmps31
    go_wp2_with (first | ((with_reducible refine gate_callee (f := 27) rfl ?_); refine goesL_ (some 6) rfl rfl Tryd.func27 (by kernel_rfl) rfl #[.int .i64 a0] rfl (by (try simp only [List.map_toArray, List.map_cons, List.map_nil]); first | done | rfl | (simp only [List.length_drop, List.length_take]; rfl)) ?_; (with_reducible refine (digest_Size.calls a0 t116 _ A3.out).mono ?_); rintro e w' ⟨rfl, ⟨nd, rfl⟩⟩; refine ⟨_, rfl, ?_⟩))
    go_ret
    exact ⟨by first | rfl | (simp; done) | (simp [*]; done), by repeat (first | exact Drawn0.refl _ | apply Drawn0.step)⟩

end Go.Proofs.YtdncmmipopdhbaaDoor.P
end

section
/-
  Walk: rsa.Pad.
-/
set_option linter.unusedVariables false
set_option linter.unusedSimpArgs false
namespace Go.Proofs.YtdncmmipopdhbaaDoor.P
open Go.RowKit Go.Proofs.YtdncmmipopdhbaaDoorW.PrintWords Go.Proofs.YtdncmmipopdhbaaDoorW.PrintLast Go.Proofs.YtdncmmipopdhbaaDoorW.PrintMore

theorem rd_V {k : IntKind} {w : World} {A : Option Addr} {c T base : Nat} {l : List Int} (h : K.Rd w k A l) (hc : l.length ≤ c) : Kd.V (Kd.int k) T w base (fun b => b < w.heap.size) (.slice A l.length c) l := by
  refine Kd.V_mk hc (fun W' hW => rd_C ?_ rfl)
  refine ⟨h.1, fun hl => ?_⟩
  obtain ⟨a, e, hcell⟩ := h.2 hl
  refine ⟨a, e, fun i hi => ?_⟩
  have h1 := hcell i hi
  rw [← h1]
  have hlt : (a.add i).block < w.heap.size := World.block_lt_of_cell? w _ h1
  unfold World.cell?
  rw [hW _ hlt hlt]
theorem size_f (a : Int) : digest_Size.f a = some (Sha.sizeN a) := by
  unfold digest_Size.f Sha.sizeN
  repeat' (split <;> try rfl)
theorem known_f (a : Int) (l : List Int) : rsa_known.f a l = some (algOk a && (l.length : Int) == Sha.sizeN a) := by
  unfold rsa_known.f
  rw [size_f]
  by_cases h : algOk a = true
  · have hs : Sha.sizeN a > 0 := by
      unfold algOk at h
      simp at h
      unfold Sha.sizeN
      repeat' (split <;> try omega)
    rw [h, Option.bind_some, if_pos hs, Option.bind_some, Bool.true_and]
  · have hf : algOk a = false := by simpa using h
    have hs : Sha.sizeN a = 0 := by
      unfold algOk at hf
      unfold Sha.sizeN
      simp at hf
      rw [if_neg (by omega), if_neg (by omega), if_neg (by omega), if_neg (by omega)]
    rw [hf, hs]
    rfl
theorem put_f (tag : Int) (cons : Bool) (ls : List (List Int)) (h1 : 1 ≤ tag) (h2 : tag ≤ 30) (ha : (ls.all u8ok) = true) (hl : ls.length ≤ 16) (hf : ls.flatten.length < 128) : der_Put.f 0 tag cons ls = some (((if cons then 32 else 0) + tag) :: (ls.flatten.length : Int) :: ls.flatten, 0) := if_pos ⟨rfl, h1, h2, ha, hl, hf⟩
theorem u8ok_app (a b : List Int) (ha : u8ok a = true) (hb : u8ok b = true) : u8ok (a ++ b) = true := by unfold u8ok at *; rw [List.all_append, ha, hb]; rfl
theorem u8ok_cons (x : Int) (b : List Int) (h0 : 0 ≤ x) (h1 : x < 256) (hb : u8ok b = true) : u8ok (x :: b) = true := by unfold u8ok at *; rw [List.all_cons, hb]; simp [h0, h1]
theorem oid_f (a : Int) (ha : algOk a = true) : ∃ s, rsa_oid.f a = some s ∧ der_PutOid.f s = some (oidB a, 0) ∧ (oidB a).length ≤ 9 ∧ u8ok (oidB a) = true := by
  unfold algOk at ha
  simp at ha
  rcases (by omega : a = 1 ∨ a = 2 ∨ a = 3 ∨ a = 4) with rfl | rfl | rfl | rfl
  all_goals exact ⟨_, rfl, by decide +kernel, by decide, by decide⟩
theorem info_f (a : Int) (l : List Int) (ha : algOk a = true) (hl : (l.length : Int) = Sha.sizeN a) (hu : u8ok l = true) : rsa_info.f a l = some (infoB a l) := by
  have hl64 : l.length ≤ 64 := by
    unfold Sha.sizeN at hl
    repeat' (split at hl <;> try omega)
  obtain ⟨s, e1, e2, h9, h8⟩ := oid_f a ha
  unfold rsa_info.f infoB
  generalize oidB a = o at *
  rw [e1, Option.bind_some, e2, Option.bind_some, put_f 6 false [o] (by omega) (by omega) (by simp [h8]) (by simp) (by simp; omega), Option.bind_some, put_f 5 false [] (by omega) (by omega) (by simp) (by simp) (by simp), Option.bind_some]
  have e3 := put_f 16 true [6 :: (o.length : Int) :: o, [5, 0]] (by omega) (by omega) (by
    simp only [List.all_cons, List.all_nil, Bool.and_true, Bool.and_eq_true]
    exact ⟨u8ok_cons _ _ (by omega) (by omega) (u8ok_cons _ _ (by omega) (by omega) h8), by decide⟩) (by simp) (by simp; omega)
  have e4 := put_f 4 false [l] (by omega) (by omega) (by simp [hu]) (by simp) (by simp; omega)
  simp at e3 e4 ⊢
  rw [e3, Option.bind_some, e4, Option.bind_some]
  have e5 := put_f 16 true [48 :: ((o.length : Int) + 4) :: 6 :: (o.length : Int) :: (o ++ [5, 0]), 4 :: (l.length : Int) :: l] (by omega) (by omega) (by
    simp only [List.all_cons, List.all_nil, Bool.and_true, Bool.and_eq_true]
    exact ⟨u8ok_cons _ _ (by omega) (by omega) (u8ok_cons _ _ (by omega) (by omega) (u8ok_cons _ _ (by omega) (by omega) (u8ok_cons _ _ (by omega) (by omega) (u8ok_app _ _ h8 (by decide))))), u8ok_cons _ _ (by omega) (by omega) (u8ok_cons _ _ (by omega) (by omega) hu)⟩) (by simp) (by simp; omega)
  have e6 : (o.length : Int) + 2 + 1 + 1 = (o.length : Int) + 4 := by omega
  simp only [e6]
  rw [e5, Option.bind_some]
  have e7 : (([48 :: ((o.length : Int) + 4) :: 6 :: (o.length : Int) :: (o ++ [5, 0]), 4 :: (l.length : Int) :: l].flatten.length : Nat) : Int) = (o.length : Int) + 8 + l.length := by simp; omega
  rw [e7]
  simp
theorem info_len (a : Int) (l : List Int) : ((infoB a l).length : Int) = ((oidB a).length : Int) + 10 + l.length ∧ (oidB a).length ≤ 9 := by
  have : (oidB a).length ≤ 9 := by unfold oidB; repeat' (split <;> try decide)
  refine ⟨?_, this⟩
  unfold infoB
  simp
  omega
set_option maxHeartbeats 8000000 in
set_option maxRecDepth 100000 in
theorem rsa_Pad.calls (a0 : Int) (A1 : Option Addr) (c1 : Nat) (l1 : List Int) (a2 : Int) (r1 : List Int) (r2 : Int) (w : World) (hr1 : Kd.C (Kd.int .u8) w A1 l1.length l1) (hc1 : l1.length ≤ c1) (h : rsa_Pad.f a0 l1 a2 = some (r1, r2)) :
    Calls Tryd.prog 18 #[.int .i64 a0, .slice A1 l1.length c1, .int .i64 a2] w fun e w' => ∃ v0_ : Value, e = .returned (.tuple #[v0_, .int .i64 r2]) ∧ Kd.R (Kd.int .u8) 5 w' w.heap.size (fun _ => True) v0_ r1 ∧ Below w.heap.size w w' := by
  unfold rsa_Pad.f at h
  have hk := known_f a0 l1
  split at h
  · rename_i hno
    obtain ⟨rfl, rfl⟩ := Prod.mk.inj (Option.some.inj h)
    clear h
    obtain ⟨kn, hkn⟩ : ∃ kn, kn = (algOk a0 && (l1.length : Int) == Sha.sizeN a0) := ⟨_, rfl⟩
    rw [← hkn] at hk
    have hcase : kn = false ∨ 2048 < a2 := by
      rcases hno with h | h | h
      · left; rw [hkn, h]; rfl
      · left; rw [hkn]; simp [h]
      · exact .inr h
    clear hno hkn
    go_enter Tryd.func18, Tryd.ntmps18
    go_wp2_with fail
    refine (rsa_known.calls a0 A1 c1 l1 kn _ hr1 hc1 hk).mono ?_
    rintro e w1 ⟨rfl, ⟨nd, rfl⟩⟩
    cases kn
    · go_wp2
      go_ret2
      exact ⟨_, rfl, Kd.R_nil _ _ _ _ _, K.below_drewN (Below.refl _ _) _⟩
    · have h2 : 2048 < a2 := by simpa using hcase
      go_wp2
      go_ret2
      exact ⟨_, rfl, Kd.R_nil _ _ _ _ _, K.below_drewN (Below.refl _ _) _⟩
  · rename_i hno
    have hal : algOk a0 = true := by cases h9 : algOk a0 <;> simp_all
    have hsz : (l1.length : Int) = Sha.sizeN a0 := by by_cases h9 : (l1.length : Int) = Sha.sizeN a0; exact h9; exact absurd (.inr (.inl h9)) hno
    have h2048 : ¬ 2048 < a2 := fun h9 => hno (.inr (.inr h9))
    rw [hal, hsz] at hk
    simp only [Bool.true_and, BEq.rfl] at hk
    have hil := info_len a0 l1
    have hl64 : l1.length ≤ 64 := by
      unfold Sha.sizeN at hsz
      repeat' (split at hsz <;> try omega)
    obtain ⟨hil, ho9⟩ := hil
    clear hno
    split at h
    · rename_i hu
      have hinf := info_f a0 l1 hal hsz hu
      clear hu hal
      generalize infoB a0 l1 = t at *
      obtain ⟨n, hn⟩ : ∃ n, t.length = n := ⟨_, rfl⟩
      rw [hn] at h hil
      have HN := Lib.hid hn
      have HINF := Lib.hid hinf
      clear hn hinf hsz
      generalize (oidB a0).length = o at *
      have hn83 : n ≤ 83 := by omega
      clear hil
      split at h
      · rename_i hlt
        obtain ⟨rfl, rfl⟩ := Prod.mk.inj (Option.some.inj h)
        clear h
        go_enter Tryd.func18, Tryd.ntmps18
        go_wp2_with fail
        refine (rsa_known.calls a0 A1 c1 l1 true _ hr1 hc1 hk).mono ?_
        rintro e w1 ⟨rfl, ⟨nd, rfl⟩⟩
        have hb1 : Below w.heap.size w (w.drewN nd) := K.below_drewN (Below.refl _ _) _
        have hr2 : K.Rd (w.drewN nd) .u8 A1 l1 := C_rd hr1
        have hs1 : (w.drewN nd).heap.size = w.heap.size := rfl
        generalize w.drewN nd = w1 at *
        clear hk hr1
        go_wp2_with fail
        refine (rsa_info.calls a0 _ A1 c1 l1 t w1 (rd_V hr2 hc1) HINF.out).mono ?_
        rintro e w2 ⟨v2, rfl, hR2, hb2⟩
        have hO2 := R_own hR2
        obtain ⟨A2, c2, rfl, hle2, h632, hat2, hrd2⟩ := hO2.rd
        clear hR2 hr2
        rw [HN.out] at hle2 ⊢
        go_wp2
        go_ret2
        have hs2 := hb2.size
        exact ⟨_, rfl, Kd.R_nil _ _ _ _ _, hb1.trans (hb2.mono (by omega))⟩
      · rename_i hge
        obtain ⟨rfl, rfl⟩ := Prod.mk.inj (Option.some.inj h)
        clear h
        obtain ⟨q, rfl⟩ : ∃ q : Nat, a2 = (n : Int) + q + 3 := ⟨(a2 - n - 3).toNat, by omega⟩
        go_enter Tryd.func18, Tryd.ntmps18
        go_wp2_with fail
        refine (rsa_known.calls a0 A1 c1 l1 true _ hr1 hc1 hk).mono ?_
        rintro e w1 ⟨rfl, ⟨nd, rfl⟩⟩
        have hb1 : Below w.heap.size w (w.drewN nd) := K.below_drewN (Below.refl _ _) _
        have hr2 : K.Rd (w.drewN nd) .u8 A1 l1 := C_rd hr1
        have hs1 : (w.drewN nd).heap.size = w.heap.size := rfl
        generalize w.drewN nd = w1 at *
        clear hk hr1
        go_wp2_with fail
        refine (rsa_info.calls a0 _ A1 c1 l1 t w1 (rd_V hr2 hc1) HINF.out).mono ?_
        rintro e w2 ⟨v2, rfl, hR2, hb2⟩
        have hO2 := R_own hR2
        obtain ⟨A2, c2, rfl, hle2, h632, hat2, hrd2⟩ := hO2.rd
        clear hR2 hr2
        rw [HN.out] at hle2 ⊢
        go_wp2_with fail
        have eq3 : (n : Int) + (q : Int) + 3 - (n : Int) - 3 = (q : Int) := by omega
        rw [eq3]
        have h2047 : q ≤ 2045 := by omega
        have hn1 : 8 ≤ q := by omega
        have hzz : (w2.alloc (.cells #[.int .u8 0, .int .u8 1] 5)).heap.size = w2.heap.size + 1 := by simp
        obtain ⟨W, hW⟩ : ∃ W, W = w2.alloc (.cells #[.int .u8 0, .int .u8 1] 5) := ⟨_, rfl⟩
        have hOW : K.Own W w2.heap.size .u8 5 (.slice (some ⟨w2.heap.size, 0, none⟩) 2 2) [0, 1] := by
          rw [hW]
          exact (K.Arr.new w2 .u8 5 [0, 1]).own' (Nat.le_refl _) (by simp)
        have hbW : Below w2.heap.size w2 W := by rw [hW]; exact (Below.refl _ _).alloc (Nat.le_refl _) _
        rw [← hW] at hzz ⊢
        have hC : Kd.C (Kd.int .u8) (W.alloc (.cells #[.int .u8 255] 5)) (some ⟨w2.heap.size + 1, 0, none⟩) 1 [255] := by
          rw [← hzz]
          exact rd_C (K.rd_new1 W .u8 5 255) rfl
        obtain ⟨R, hR⟩ : ∃ R : List Int, R = List.replicate q 255 := ⟨_, rfl⟩
        have hRf : bytes_Repeat.f [255] (q : Int) = some R := by
          unfold bytes_Repeat.f
          rw [if_pos ⟨rfl, by omega, by omega⟩, hR]
          simp
        have hRl : R.length = q := by rw [hR]; simp
        have HRR := Lib.hid hR
        have hO5 : K.Own (W.alloc (.cells #[.int .u8 255] 5)) w2.heap.size .u8 5 (.slice (some ⟨w2.heap.size, 0, none⟩) 2 2) [0, 1] := hOW.alloc _
        have hb5 : Below w2.heap.size w2 (W.alloc (.cells #[.int .u8 255] 5)) := hbW.alloc (by rw [hzz]; exact Nat.le_succ _) _
        generalize W.alloc (.cells #[.int .u8 255] 5) = w3 at *
        clear hR hW hOW hbW hzz
        refine (bytes_Repeat.calls _ 1 [255] (q : Int) R w3 hC (by simp) hRf).mono ?_
        rintro e w4 ⟨A4, c4, rfl, hle4, hrd4, hb4⟩
        clear hC hRf
        have hO6 := hO5.below hb4
        have hb6 := hb5.trans (hb4.mono hb5.size)
        have HRL := Lib.hid hRl
        rw [hRl] at hle4 ⊢
        clear hRl hb4 hb5 hO5
        have hs6 := hb6.size
        have hrdt : K.Rd w4 .u8 A2 t := hrd2.belowB hb6 (fun a ha => (hat2 a ha).2)
        clear hrd2
        go_wp2_with (first | (refine K.wpList_ap w2.heap.size .u8 rfl _ _ 31 5 1 (by rfl) Tryd.underlying31 info_u8 (by decide) (.slice (some ⟨w2.heap.size, 0, none⟩) 2 2) [0, 1] R A4 q c4 (by rfl) (by rfl) HRL.out hO6 hrd4 (by rw [HRL.out]; simp; omega) hs6 (2 + q) (by rw [HRL.out]; rfl) ?_; intro A7 c7 w7 hO7 hg7 hat7; have hb7 : Below w2.heap.size w2 w7 := K.below_grown hb6 hg7 hs6 (fun b hb => hO6.base_le b hb); have hs7 := hb7.size; have hrd7 : K.Rd w7 .u8 A2 t := hrdt.grown hg7 (fun a ha e => by have := (hat2 a ha).2; have := hO6.base_le _ e.symm; omega)) | (refine K.wpList_ap1n w2.heap.size .u8 rfl _ _ 31 5 1 (by rfl) Tryd.underlying31 info_u8 (by decide) (.slice A7 (2 + q) c7) ([0, 1] ++ R) _ (by rfl) (by rfl) hO7 (2 + q) (by rw [List.length_append, HRL.out]; rfl) (by omega) hs7 (2 + q + 1) rfl ?_; intro A8 c8 w8 hO8 hg8; have hb8 : Below w2.heap.size w2 w8 := K.below_grown hb7 hg8 hs7 (fun b hb => hO7.base_le b hb); have hs8 := hb8.size; have hrd8 : K.Rd w8 .u8 A2 t := hrd7.grown hg8 (fun a ha e => by have := (hat2 a ha).2; have := hO7.base_le _ e.symm; omega)) | (refine K.wpList_ap w2.heap.size .u8 rfl _ _ 31 5 1 (by rfl) Tryd.underlying31 info_u8 (by decide) (.slice A8 (2 + q + 1) c8) ([0, 1] ++ R ++ [0]) t A2 n c2 (by rfl) (by rfl) HN.out hO8 hrd8 (by rw [List.length_append, List.length_append, HRL.out, HN.out]; simp; omega) hs8 (2 + q + 1 + n) (by rw [List.length_append, List.length_append, HRL.out, HN.out]; rfl) ?_; intro A9 c9 w9 hO9 hg9 hat9))
        go_ret2
        have hb9 := K.below_grown hb8 hg9 hs8 (fun b hb => hO8.base_le b hb)
        have hs2 := hb2.size
        have hfin : [0, 1] ++ R ++ [0] ++ t = 0 :: 1 :: (List.replicate (((n : Int) + q + 3).toNat - n - 3) 255 ++ 0 :: t) := by
          rw [HRR.out, show ((n : Int) + q + 3).toNat - n - 3 = q by omega]; simp
        rw [hfin] at hO9
        exact ⟨_, rfl, own_R (hO9.mono (by omega)) (fun _ _ => trivial), hb1.trans ((hb2.mono (by omega)).trans (hb9.mono (by omega)))⟩
    · cases h
end Go.Proofs.YtdncmmipopdhbaaDoor.P
end

section
/-
  Walk: nat.Bits.
-/
set_option linter.unusedVariables false
set_option linter.unusedSimpArgs false
namespace Go.Proofs.YtdncmmipopdhbaaDoor.P
open Go.RowKit Go.Proofs.YtdncmmipopdhbaaDoorW.PrintWords Go.Proofs.YtdncmmipopdhbaaDoorW.PrintLast Go.Proofs.YtdncmmipopdhbaaDoorW.PrintMore

set_option maxHeartbeats 4000000 in
set_option maxRecDepth 100000 in
theorem nat_Bits.calls (A0 : Option Addr) (c0 : Nat) (l0 : List Int) (r : Int) (w : World) (hr0 : Kd.C (Kd.int .u32) w A0 l0.length l0) (hc0 : l0.length ≤ c0) (h : nat_Bits.f l0 = some r) :
    Calls Tryd.prog 25 #[.slice A0 l0.length c0] w fun e w' => e = .returned (.int .i64 r) ∧ Drawn0 w w' := by
  unfold nat_Bits.f at h
  split at h
  · rename_i hh
    obtain ⟨ho, hl⟩ := hh
    obtain rfl := Option.some.inj h
    clear h
    have hr := C_rd hr0
    have hrt : K.Rd w .u32 A0 (tr l0) := hr.take _
    have hto := tr_ok l0 ho
    have hnz := tr_nz l0
    have hv := vl_tr l0
    have hle := tr_le l0
    have HR0 := Lib.hid hr0
    have HO := Lib.hid ho
    clear hr0 ho
    by_cases h0 : (tr l0).length = 0
    · have e : blen (vl l0) = 0 := by rw [← hv, List.eq_nil_of_length_eq_zero h0]; rfl
      have E := Lib.hid e
      have H0 := Lib.hid h0
      clear e hv
      have hb0 : (((tr l0).length : Int) == 0) = true := by rw [h0]; rfl
      clear h0
      go_enter Tryd.func25, Tryd.ntmps25
      go_wp2_with fail
      refine (cut_reads A0 c0 l0 _ hr hc0 (by omega)).mono ?_
      rintro e w1 ⟨rfl, rfl⟩
      rw [H0.out] at hb0 ⊢
      go_wp2
      go_ret
      exact ⟨by rw [E.out]; rfl, Drawn0.refl _⟩
    · have hpos : 0 < (tr l0).length := by omega
      have e := blen_vl (tr l0) hto hnz hpos
      rw [hv] at e
      have E := Lib.hid e
      have hx := u32ok_getD (tr l0) hto ((tr l0).length - 1)
      have hb0 : (((tr l0).length : Int) == 0) = false := by simpa using h0
      obtain ⟨a, rfl, hcell⟩ := hrt.2 hpos
      have hcj := hcell ((tr l0).length - 1) (by omega)
      have e1 : ((tr l0).length : Int) - 1 = (((tr l0).length - 1 : Nat) : Int) := by omega
      have E1 := Lib.hid e1
      clear e hv h0 e1 hcell
      have hb := blen_le32 ((tr l0).getD ((tr l0).length - 1) 0).toNat (by omega)
      go_enter Tryd.func25, Tryd.ntmps25
      go_wp2_with fail
      refine (cut_reads _ c0 l0 _ hr hc0 (by omega)).mono ?_
      rintro e w1 ⟨rfl, rfl⟩
      go_wp2_with fail
      rw [List.getD_eq_getElem?_getD] at E hx hb
      have hlf : bits_Len32.f ((tr l0)[(tr l0).length - 1]?.getD 0) = some (blen ((tr l0)[(tr l0).length - 1]?.getD 0).toNat) := by
        unfold bits_Len32.f
        rw [if_pos ⟨hx.1, hx.2⟩]
      refine (bits_Len32.calls _ _ _ hlf).mono ?_
      rintro e w2 ⟨rfl, hd⟩
      clear hlf
      go_wp2
      go_ret
      exact ⟨by rw [E.out]; rfl, hd⟩
  · cases h
end Go.Proofs.YtdncmmipopdhbaaDoor.P
end
