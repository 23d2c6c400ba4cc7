/-
  Parts of the walks and of the plain laws below the statement (Fchirographref08Size, XChecks, YBits, YChecks). Texts named F.. are what the kit's print writes for one function each, through a program of mine that hands it contracts of the functions that it does not take.
-/
import Derived.Test.YtdncmmipopdhbaaDoorCk1
import Derived.Test.YtdncmmipopdhbaaDoorCk18
import Derived.Test.YtdncmmipopdhbaaDoorCk17
import Derived.Deep.RegionHeld3
import Derived.Test.YtdncmmipopdhbaaDoorCk9
import Derived.Test.YtdncmmipopdhbaaDoorCk16
section
-- What the print of the kit writes for this function (through a program of mine that hands it contracts of functions that it does not take).
namespace Go.Proofs.YtdncmmipopdhbaaDoor.P
open Go.RowKit Go.Proofs.YtdncmmipopdhbaaDoorW.PrintWords Go.Proofs.YtdncmmipopdhbaaDoorW.PrintLast Go.Proofs.YtdncmmipopdhbaaDoorW.PrintMore
attribute [local go_sem] max2_int min2_int max_two min_two max_three min_three max_four min_four   -- for this text's walks alone
set_option linter.unusedVariables false
set_option linter.unusedSimpArgs false

/-! ### chirographref08_Size: function 12 -/
def chirographref08_Size.f (k : Nat) (l0_0 : List Int) (l0_1 : List Int) : Option (Int) := (chirographref08_Check.f k l0_0 l0_1).bind fun t256 => (if t256 = 0 then ((chirographref01_Bits.f k l0_0).bind fun t257 => (some (wrap64 (Int.tdiv (wrap64 (t257 + 7)) 8)))) else (some 0))
theorem chirographref08_Size.mono : ∀ a0 a1 k, LeO (chirographref08_Size.f k a0 a1) (chirographref08_Size.f (k + 1) a0 a1) := by
  intro a0 a1 k
  unfold chirographref08_Size.f
  repeat' first
      | (with_reducible exact chirographref01_Bits.mono _ _)
      | (with_reducible exact chirographref08_Check.mono _ _ _)
      | (with_reducible exact LeO.refl _)
      | (with_reducible exact LeO.none _)
      | (with_reducible refine LeO.ite ?_ ?_)
      | (with_reducible refine LeO.bind ?_ (fun _ => ?_))
      | exact chirographref01_Bits.mono _ _
      | exact chirographref08_Check.mono _ _ _
      | exact LeO.none _
      | refine LeO.ite ?_ ?_
      | refine LeO.bind ?_ (fun _ => ?_)
set_option maxHeartbeats 8000000 in
set_option maxRecDepth 100000 in
theorem chirographref08_Size.calls (k : Nat) (A0_0 : Option Addr) (c0_0 : Nat) (l0_0 : List Int) (A0_1 : Option Addr) (c0_1 : Nat) (l0_1 : List Int) (r : Int) (w : World) (hr0_0 : Kd.C (Kd.int .u32) w A0_0 l0_0.length l0_0) (hc0_0 : l0_0.length ≤ c0_0) (hr0_1 : Kd.C (Kd.int .u32) w A0_1 l0_1.length l0_1) (hc0_1 : l0_1.length ≤ c0_1) (h : chirographref08_Size.f k l0_0 l0_1 = some r) :
    Calls Tryd.prog 12 #[.agg #[.slice A0_0 l0_0.length c0_0, .slice A0_1 l0_1.length c0_1]] w fun e w' => e = .returned (.int .i64 r) ∧ Below w.heap.size w w' := by
  have hu24 := Tryd.underlying24
  have HR0_0 := Aside0.mk hr0_0
  have HC0_0 := Aside0.mk hc0_0
  clear hr0_0 hc0_0
  have HR0_1 := Aside0.mk hr0_1
  have HC0_1 := Aside0.mk hc0_1
  clear hr0_1 hc0_1
  have HB := Aside0.mk (Below.refl w.heap.size w)
  have H : ((chirographref08_Check.f k l0_0 l0_1).bind fun t256 => (if t256 = 0 then ((chirographref01_Bits.f k l0_0).bind fun t257 => (some (wrap64 (Int.tdiv (wrap64 (t257 + 7)) 8)))) else (some 0))) = some r := h
  clear h
  replace H := Option.bind_eq_some_iff.mp H
  obtain ⟨t256, A20, H⟩ := H
  replace H : (if t256 = 0 then ((chirographref01_Bits.f k l0_0).bind fun t257 => (some (wrap64 (Int.tdiv (wrap64 (t257 + 7)) 8)))) else (some 0)) = some r := H
  have A2 := Aside0.mk A20
  clear A20
  by_cases c3 : t256 = 0
  · rw [if_pos c3] at H
    have c3b0 : (t256 == 0) = true := beq_iff_eq.mpr c3
    have c3b1 : (t256 != 0) = false := bne_eq_false_iff_eq.mpr c3
    clear c3
    replace H := Option.bind_eq_some_iff.mp H
    obtain ⟨t257, A40, H⟩ := H
    replace H : (some (wrap64 (Int.tdiv (wrap64 (t257 + 7)) 8))) = some r := H
    have A4 := Aside0.mk A40
    clear A40
    obtain rfl := Option.some.inj H
    go_enter Tryd.func12, Tryd.ntmps12
    go_wp2_with (first | ((with_reducible refine gate_dst (N := 1) rfl ?_); refine box_event ?hg (N := 1) ?hd (cs := #[.slice A0_0 l0_0.length c0_0, .slice A0_1 l0_1.length c0_1]) (t := 24) ?hr ?_; (case hd => rfl); (case hg => rfl); (case hr => first | (go_simp; done) | (go_simp; rfl)); intro gb255 hg w5 hbox hb; have n0_ := Aside0.mk (below_step (by repeat (first | (with_reducible first | exact HB.out | apply below_alloc | apply pw_below_drewN | apply below_drew1) | exact HB.out)) hb); have n1_ := Aside0.mk (hbox); have n2_ := Aside0.mk ((by rw [hg]; exact (below_size (by repeat (first | (with_reducible first | exact HB.out | apply below_alloc | apply pw_below_drewN | apply below_drew1) | exact HB.out))) : w.heap.size ≤ gb255)); have n3_ := Aside0.mk ((by rw [hg]; exact (below_size (by repeat (first | (with_reducible first | exact HB.out | apply below_alloc | apply pw_below_drewN | apply below_drew1) | exact HB.out))) : w.heap.size ≤ gb255)); clear HB; have HB := n0_; have BK255 := n1_; have GW255 := n2_; have GE255 := n3_; clear n0_ n1_ n2_ n3_; clear hb hbox hg; have hcz6_0 : w5.cell? ⟨gb255, 0, none⟩ = some (.slice A0_0 l0_0.length c0_0) := (blk_cell BK255.out 0).trans rfl; have hcz6_1 : w5.cell? ⟨gb255, 1, none⟩ = some (.slice A0_1 l0_1.length c0_1) := (blk_cell BK255.out 1).trans rfl; have hfz6_0 := blk_frozen BK255.out 0; have hfz6_1 := blk_frozen BK255.out 1) | ((with_reducible refine gate_callee (f := 10) rfl ?_); refine goesL_ (some 4) rfl rfl Tryd.func10 (by kernel_rfl) rfl #[.agg #[.slice A0_0 l0_0.length c0_0, .slice A0_1 l0_1.length c0_1]] rfl (by (try simp only [List.map_toArray, List.map_cons, List.map_nil]); first | done | rfl | (simp only [List.length_drop, List.length_take]; rfl)) ?_; (with_reducible refine (chirographref08_Check.calls k _ _ l0_0 _ _ l0_1 t256 _ ?side1 ?side2 ?side3 ?side4 A2.out).mono ?_); (case side1 => repeat (first | exact (Kd.C_below HR0_0.out HB.out) | (with_reducible refine Kd.C_alloc ?_ _) | (with_reducible refine Kd.C_drewN ?_ _) | (with_reducible refine Kd.C_drew ?_))); (case side2 => exact HC0_0.out); (case side3 => repeat (first | exact (Kd.C_below HR0_1.out HB.out) | (with_reducible refine Kd.C_alloc ?_ _) | (with_reducible refine Kd.C_drewN ?_ _) | (with_reducible refine Kd.C_drew ?_))); (case side4 => exact HC0_1.out); rintro e w7 ⟨rfl, hb⟩; refine ⟨_, rfl, ?_⟩; have n0_ := Aside0.mk (blk_below (g := gb255) (o := .cells #[.slice A0_0 l0_0.length c0_0, .slice A0_1 l0_1.length c0_1] 24 (0, 0)) (by (with_reducible repeat (first | refine blk_drewN ?_ _ | refine blk_drew ?_ | refine blk_alloc ?_ _)); exact BK255.out) hb); have n1_ := Aside0.mk (below_step (by repeat (first | (with_reducible first | exact HB.out | apply below_alloc | apply pw_below_drewN | apply below_drew1 | refine below_set ?_ GE255.out) | exact HB.out)) hb); clear BK255; clear HB; have BK255 := n0_; have HB := n1_; clear n0_ n1_; (try clear hb); (try clear hb2); (try clear hk); (try clear hi); have hcz8_0 : w7.cell? ⟨gb255, 0, none⟩ = some (.slice A0_0 l0_0.length c0_0) := (blk_cell BK255.out 0).trans rfl; have hcz8_1 : w7.cell? ⟨gb255, 1, none⟩ = some (.slice A0_1 l0_1.length c0_1) := (blk_cell BK255.out 1).trans rfl; have hfz8_0 := blk_frozen BK255.out 0; have hfz8_1 := blk_frozen BK255.out 1) | ((with_reducible refine gate_callee (f := 26) rfl ?_); refine goesL_ (some 8) rfl rfl Tryd.func26 (by kernel_rfl) rfl #[.slice A0_0 l0_0.length c0_0] rfl (by (try simp only [List.map_toArray, List.map_cons, List.map_nil]); first | done | rfl | (simp only [List.length_drop, List.length_take]; rfl)) ?_; (with_reducible refine (chirographref01_Bits.calls k _ _ l0_0 t257 _ ?side1 ?side2 A4.out).mono ?_); (case side1 => repeat (first | exact (Kd.C_below HR0_0.out HB.out) | (with_reducible refine Kd.C_alloc ?_ _) | (with_reducible refine Kd.C_drewN ?_ _) | (with_reducible refine Kd.C_drew ?_))); (case side2 => exact HC0_0.out); rintro e w9 ⟨rfl, hb⟩; refine ⟨_, rfl, ?_⟩; have n0_ := Aside0.mk (blk_below (g := gb255) (o := .cells #[.slice A0_0 l0_0.length c0_0, .slice A0_1 l0_1.length c0_1] 24 (0, 0)) (by (with_reducible repeat (first | refine blk_drewN ?_ _ | refine blk_drew ?_ | refine blk_alloc ?_ _)); exact BK255.out) hb); have n1_ := Aside0.mk (below_step (by repeat (first | (with_reducible first | exact HB.out | apply below_alloc | apply pw_below_drewN | apply below_drew1 | refine below_set ?_ GE255.out) | exact HB.out)) hb); clear BK255; clear HB; have BK255 := n0_; have HB := n1_; clear n0_ n1_; (try clear hb); (try clear hb2); (try clear hk); (try clear hi)))
    go_ret
    exact ⟨by first | rfl | (simp [errW_none, errW_some] <;> rfl) | (simp [*, errW_none, errW_some] <;> rfl), by repeat (first | (with_reducible first | exact HB.out | apply below_alloc | apply pw_below_drewN | apply below_drew1 | refine below_set ?_ GE255.out) | exact HB.out)⟩
  · rw [if_neg c3] at H
    have c3b0 : (t256 == 0) = false := beq_eq_false_iff_ne.mpr c3
    have c3b1 : (t256 != 0) = true := bne_iff_ne.mpr c3
    obtain rfl := Option.some.inj H
    go_enter Tryd.func12, Tryd.ntmps12
    go_wp2_with (first | ((with_reducible refine gate_dst (N := 1) rfl ?_); refine box_event ?hg (N := 1) ?hd (cs := #[.slice A0_0 l0_0.length c0_0, .slice A0_1 l0_1.length c0_1]) (t := 24) ?hr ?_; (case hd => rfl); (case hg => rfl); (case hr => first | (go_simp; done) | (go_simp; rfl)); intro gb255 hg w10 hbox hb; have n0_ := Aside0.mk (below_step (by repeat (first | (with_reducible first | exact HB.out | apply below_alloc | apply pw_below_drewN | apply below_drew1) | exact HB.out)) hb); have n1_ := Aside0.mk (hbox); have n2_ := Aside0.mk ((by rw [hg]; exact (below_size (by repeat (first | (with_reducible first | exact HB.out | apply below_alloc | apply pw_below_drewN | apply below_drew1) | exact HB.out))) : w.heap.size ≤ gb255)); have n3_ := Aside0.mk ((by rw [hg]; exact (below_size (by repeat (first | (with_reducible first | exact HB.out | apply below_alloc | apply pw_below_drewN | apply below_drew1) | exact HB.out))) : w.heap.size ≤ gb255)); clear HB; have HB := n0_; have BK255 := n1_; have GW255 := n2_; have GE255 := n3_; clear n0_ n1_ n2_ n3_; clear hb hbox hg; have hcz11_0 : w10.cell? ⟨gb255, 0, none⟩ = some (.slice A0_0 l0_0.length c0_0) := (blk_cell BK255.out 0).trans rfl; have hcz11_1 : w10.cell? ⟨gb255, 1, none⟩ = some (.slice A0_1 l0_1.length c0_1) := (blk_cell BK255.out 1).trans rfl; have hfz11_0 := blk_frozen BK255.out 0; have hfz11_1 := blk_frozen BK255.out 1) | ((with_reducible refine gate_callee (f := 10) rfl ?_); refine goesL_ (some 4) rfl rfl Tryd.func10 (by kernel_rfl) rfl #[.agg #[.slice A0_0 l0_0.length c0_0, .slice A0_1 l0_1.length c0_1]] rfl (by (try simp only [List.map_toArray, List.map_cons, List.map_nil]); first | done | rfl | (simp only [List.length_drop, List.length_take]; rfl)) ?_; (with_reducible refine (chirographref08_Check.calls k _ _ l0_0 _ _ l0_1 t256 _ ?side1 ?side2 ?side3 ?side4 A2.out).mono ?_); (case side1 => repeat (first | exact (Kd.C_below HR0_0.out HB.out) | (with_reducible refine Kd.C_alloc ?_ _) | (with_reducible refine Kd.C_drewN ?_ _) | (with_reducible refine Kd.C_drew ?_))); (case side2 => exact HC0_0.out); (case side3 => repeat (first | exact (Kd.C_below HR0_1.out HB.out) | (with_reducible refine Kd.C_alloc ?_ _) | (with_reducible refine Kd.C_drewN ?_ _) | (with_reducible refine Kd.C_drew ?_))); (case side4 => exact HC0_1.out); rintro e w12 ⟨rfl, hb⟩; refine ⟨_, rfl, ?_⟩; have n0_ := Aside0.mk (blk_below (g := gb255) (o := .cells #[.slice A0_0 l0_0.length c0_0, .slice A0_1 l0_1.length c0_1] 24 (0, 0)) (by (with_reducible repeat (first | refine blk_drewN ?_ _ | refine blk_drew ?_ | refine blk_alloc ?_ _)); exact BK255.out) hb); have n1_ := Aside0.mk (below_step (by repeat (first | (with_reducible first | exact HB.out | apply below_alloc | apply pw_below_drewN | apply below_drew1 | refine below_set ?_ GE255.out) | exact HB.out)) hb); clear BK255; clear HB; have BK255 := n0_; have HB := n1_; clear n0_ n1_; (try clear hb); (try clear hb2); (try clear hk); (try clear hi)))
    go_ret
    exact ⟨by first | rfl | (simp [errW_none, errW_some] <;> rfl) | (simp [*, errW_none, errW_some] <;> rfl), by repeat (first | (with_reducible first | exact HB.out | apply below_alloc | apply pw_below_drewN | apply below_drew1 | refine below_set ?_ GE255.out) | exact HB.out)⟩

end Go.Proofs.YtdncmmipopdhbaaDoor.P
end

section
/-
  Walk: chirographlaw08.RsaChecks.
-/
set_option linter.unusedVariables false
set_option linter.unusedSimpArgs false
namespace Go.Proofs.YtdncmmipopdhbaaDoor.P
open Go.RowKit Go.Proofs.YtdncmmipopdhbaaDoorW.PrintWords Go.Proofs.YtdncmmipopdhbaaDoorW.PrintLast Go.Proofs.YtdncmmipopdhbaaDoorW.PrintMore

theorem below_drew0 {B : Nat} {w w' : World} (h : Below B w w') : Below B w w'.drew := K.below_drewN (n := 1) h
set_option maxHeartbeats 8000000 in
set_option maxRecDepth 100000 in
theorem checks_calls (AN AE : Option Addr) (cN cE : Nat) (N E : List Int) (w : World) (hrN : K.Rd w .u32 AN N) (hrE : K.Rd w .u32 AE E) (hcN : N.length ≤ cN) (hcE : E.length ≤ cE) (hKA : Sha.KAt w) (k : Nat) (c s : Int)
    (h : N.length ≤ 600 → E.length ≤ 600 → rsa_Check.f k N E = some c ∧ chirographref08_Check.f k N E = some c ∧ rsa_Size.f k N E = some s ∧ chirographref08_Size.f k N E = some s) :
    Calls Tryd.prog 3 #[.agg #[.slice AN N.length cN, .slice AE E.length cE]] w fun e w' => e = .returned (.bool true) ∧ Below w.heap.size w w' := by
  have H := Lib.hid h
  clear h
  obtain ⟨W, hW⟩ : ∃ W, W = w.alloc (.cells #[.slice AN N.length cN, .slice AE E.length cE] 24) := ⟨_, rfl⟩
  have kb : Below w.heap.size w W := by rw [hW]; exact (Below.refl _ _).alloc (Nat.le_refl _) _
  have kh : W.heap[w.heap.size]? = some (.cells #[.slice AN N.length cN, .slice AE E.length cE] 24 (0, 0)) := by rw [hW]; exact World.alloc_heap_new _ _
  have hlt : w.heap.size < W.heap.size := by rw [hW]; simp
  have c0 : W.cell? ⟨w.heap.size, 0, none⟩ = some (.slice AN N.length cN) := by rw [K.blk_cell kh]; rfl
  have c1 : W.cell? ⟨w.heap.size, 1, none⟩ = some (.slice AE E.length cE) := by rw [K.blk_cell kh]; rfl
  have hrN1 := hrN.below kb
  have hrE1 := hrE.below kb
  have hK1 := hKA.below kb
  go_enter Tryd.func3, Tryd.ntmps3
  by_cases h1 : 600 < N.length
  · have h1i : (600 : Int) < (N.length : Int) := by omega
    go_wp2_with fail
    rw [← hW]
    refine (chirographlaw08_live.calls true W hK1 rfl).mono ?_
    rintro e w2 ⟨rfl, hb2⟩
    go_wp2
    go_ret
    exact ⟨rfl, kb.trans (hb2.mono kb.size)⟩
  · have h1i : ¬ (600 : Int) < (N.length : Int) := by omega
    by_cases h2 : 600 < E.length
    · have h2i : (600 : Int) < (E.length : Int) := by omega
      go_wp2_with fail
      rw [← hW]
      refine (chirographlaw08_live.calls true W hK1 rfl).mono ?_
      rintro e w2 ⟨rfl, hb2⟩
      go_wp2
      go_ret
      exact ⟨rfl, kb.trans (hb2.mono kb.size)⟩
    · have h2i : ¬ (600 : Int) < (E.length : Int) := by omega
      obtain ⟨e1, e2, e3, e4⟩ := H.out (by omega) (by omega)
      have K9 : Hid (∀ wc, Below W.heap.size W wc → Calls Tryd.prog 9 #[.agg #[.slice AN N.length cN, .slice AE E.length cE]] wc fun e w' => e = .returned (.int .i64 c) ∧ Below W.heap.size W w') := Lib.hid fun wc hb => (rsa_Check.calls k AN cN N AE cE E c wc (rd_C (hrN1.below hb) rfl) hcN (rd_C (hrE1.below hb) rfl) hcE e1).mono fun e w' h => ⟨h.1, hb.trans (h.2.mono hb.size)⟩
      have K10 : Hid (∀ wc, Below W.heap.size W wc → Calls Tryd.prog 10 #[.agg #[.slice AN N.length cN, .slice AE E.length cE]] wc fun e w' => e = .returned (.int .i64 c) ∧ Below W.heap.size W w') := Lib.hid fun wc hb => (chirographref08_Check.calls k AN cN N AE cE E c wc (rd_C (hrN1.below hb) rfl) hcN (rd_C (hrE1.below hb) rfl) hcE e2).mono fun e w' h => ⟨h.1, hb.trans (h.2.mono hb.size)⟩
      have K11 : Hid (∀ wc, Below W.heap.size W wc → Calls Tryd.prog 11 #[.agg #[.slice AN N.length cN, .slice AE E.length cE]] wc fun e w' => e = .returned (.int .i64 s) ∧ Below W.heap.size W w') := Lib.hid fun wc hb => (rsa_Size.calls k AN cN N AE cE E s wc (rd_C (hrN1.below hb) rfl) hcN (rd_C (hrE1.below hb) rfl) hcE e3).mono fun e w' h => ⟨h.1, hb.trans (h.2.mono hb.size)⟩
      have K12 : Hid (∀ wc, Below W.heap.size W wc → Calls Tryd.prog 12 #[.agg #[.slice AN N.length cN, .slice AE E.length cE]] wc fun e w' => e = .returned (.int .i64 s) ∧ Below W.heap.size W w') := Lib.hid fun wc hb => (chirographref08_Size.calls k AN cN N AE cE E s wc (rd_C (hrN1.below hb) rfl) hcN (rd_C (hrE1.below hb) rfl) hcE e4).mono fun e w' h => ⟨h.1, hb.trans (h.2.mono hb.size)⟩
      have K8 : Hid (∀ wc, Below W.heap.size W wc → Calls Tryd.prog 8 #[.int .i64 c] wc fun e w' => e = .returned (.int .i64 c) ∧ Below W.heap.size W w') := Lib.hid fun wc hb => (chirographlaw08_num.calls c c wc rfl).mono fun e w' h => ⟨h.1, by obtain ⟨n, hn⟩ := h.2.out; rw [hn]; exact K.below_drewN hb n⟩
      have K7 : Hid (∀ wc, Below W.heap.size W wc → Calls Tryd.prog 7 #[] wc fun e w' => e = .returned (.bool true) ∧ Below W.heap.size W w') := Lib.hid fun wc hb => (chirographlaw08_live.calls true wc (hK1.below hb) rfl).mono fun e w' h => ⟨h.1, hb.trans (h.2.mono hb.size)⟩
      have hB0 : Below W.heap.size W W := Below.refl _ _
      go_wp2_with fail
      rw [← hW]
      clear e1 e2 e3 e4 H hrN hrE hrN1 hrE1 hKA hK1 hW kh
      go_region_held3 (fun w' => w'.cell? ⟨w.heap.size, 0, none⟩ = some (.slice AN N.length cN) ∧ w'.cell? ⟨w.heap.size, 1, none⟩ = some (.slice AE E.length cE)) (first | exact ⟨(Below.cell (B := W.heap.size) (w := W) (by first | assumption | exact below_drew0 (by assumption)) (p := ⟨w.heap.size, 0, none⟩) hlt).trans c0, (Below.cell (B := W.heap.size) (w := W) (by first | assumption | exact below_drew0 (by assumption)) (p := ⟨w.heap.size, 1, none⟩) hlt).trans c1⟩) (first
        | (go_at_call 9; refine (K9.out _ ?_).mono ?_; (first | assumption | exact below_drew0 (by assumption)); rintro e wx9 ⟨rfl, hb9⟩)
        | (go_at_call 8; refine (K8.out _ ?_).mono ?_; (first | assumption | exact below_drew0 (by assumption)); rintro e wx8 ⟨rfl, hb8⟩)
        | (go_at_call 10; refine (K10.out _ ?_).mono ?_; (first | assumption | exact below_drew0 (by assumption)); rintro e wx10 ⟨rfl, hb10⟩)
        | (go_at_call 11; refine (K11.out _ ?_).mono ?_; (first | assumption | exact below_drew0 (by assumption)); rintro e wx11 ⟨rfl, hb11⟩)
        | (go_at_call 12; refine (K12.out _ ?_).mono ?_; (first | assumption | exact below_drew0 (by assumption)); rintro e wx12 ⟨rfl, hb12⟩)
        | (go_at_call 7; refine (K7.out _ ?_).mono ?_; (first | assumption | exact below_drew0 (by assumption)); rintro e wx7 ⟨rfl, hb7⟩))
      go_wp2
      go_ret
      exact ⟨rfl, kb.trans (hb7.mono kb.size)⟩
end Go.Proofs.YtdncmmipopdhbaaDoor.P
end

section
/-
  Plain: the reference's count of binary digits is the number's.
-/
set_option linter.unusedVariables false
set_option linter.unusedSimpArgs false
namespace Go.Proofs.YtdncmmipopdhbaaDoor.P
open Go.RowKit Go.Proofs.YtdncmmipopdhbaaDoorW.PrintWords Go.Proofs.YtdncmmipopdhbaaDoorW.PrintLast Go.Proofs.YtdncmmipopdhbaaDoorW.PrintMore

theorem w64in (n : Int) (h : 0 ≤ n ∧ n ≤ 4611686018427387904) : wrap64 n = n := by unfold wrap64; omega
theorem and32n (n m : Nat) (hn : n < 4294967296) (hm : m < 4294967296) : bits .and .u32 (n : Int) (m : Int) = ((n &&& m : Nat) : Int) := by
  have e := K.iw_and32 (BitVec.ofNat 32 n) (BitVec.ofNat 32 m)
  have e1 : ∀ k : Nat, k < 4294967296 → K.iw (BitVec.ofNat 32 k) = (k : Int) := fun k hk => by unfold K.iw; rw [BitVec.toNat_ofNat, Nat.mod_eq_of_lt (by omega)]
  rw [e1 n hn, e1 m hm] at e
  rw [e]
  unfold K.iw
  rw [BitVec.toNat_and, BitVec.toNat_ofNat, BitVec.toNat_ofNat, Nat.mod_eq_of_lt (by omega : n < 2 ^ 32), Nat.mod_eq_of_lt (by omega : m < 2 ^ 32)]
theorem and64n (n m : Nat) (hn : n < 18446744073709551616) (hm : m < 18446744073709551616) : bits .and .u64 (n : Int) (m : Int) = ((n &&& m : Nat) : Int) := by
  have e := K.iw_and64 (BitVec.ofNat 64 n) (BitVec.ofNat 64 m)
  have e1 : ∀ k : Nat, k < 18446744073709551616 → K.iw (BitVec.ofNat 64 k) = (k : Int) := fun k hk => by unfold K.iw; rw [BitVec.toNat_ofNat, Nat.mod_eq_of_lt (by omega)]
  rw [e1 n hn, e1 m hm] at e
  rw [e]
  unfold K.iw
  rw [BitVec.toNat_and, BitVec.toNat_ofNat, BitVec.toNat_ofNat, Nat.mod_eq_of_lt (by omega : n < 2 ^ 64), Nat.mod_eq_of_lt (by omega : m < 2 ^ 64)]
theorem plain_l0 (d : List Int) (hd : d.length ≤ 4611686018427387904) : ∀ m k, m < k → m ≤ d.length → chirographref01_plain.l0 k d (m : Int) = some (d.take (trn d m))
  | 0, k + 1, _, _ => by
    unfold chirographref01_plain.l0
    rw [if_neg (by omega), if_pos (by omega), if_pos (by omega)]
    rfl
  | m + 1, k + 1, hk, hm => by
    unfold chirographref01_plain.l0
    have e : wrap64 (((m + 1 : Nat) : Int) - 1) = (m : Int) := by rw [show ((m + 1 : Nat) : Int) - 1 = (m : Int) by omega]; exact w64in _ (by omega)
    rw [if_pos (by omega), e, if_pos (by omega), if_pos (by omega)]
    have er : rd d (m : Int) = d.getD m 0 := by simp [rd]
    rw [er]
    unfold trn
    by_cases h : d.getD m 0 = 0
    · rw [if_pos h, if_pos h]
      exact plain_l0 d hd m k (by omega) (by omega)
    · rw [if_neg h, if_neg h, if_pos (by omega), if_pos (by omega)]
      simp
theorem plain_f (d : List Int) (hd : d.length ≤ 4611686018427387904) (k : Nat) (hk : d.length < k) : chirographref01_plain.f k d = some (tr d) := plain_l0 d hd d.length k hk (Nat.le_refl _)
/-- Limbs as digits of 16 bits. -/
def dg (l : List Int) : List Int := l.flatMap fun x => [x % 65536, x / 65536]
theorem dg_len (l : List Int) : (dg l).length = 2 * l.length := by
  unfold dg
  induction l with
  | nil => rfl
  | cons x l ih => rw [List.flatMap_cons, List.length_append, ih]; simp; omega
theorem dg_succ (l : List Int) (j : Nat) (hj : j < l.length) : dg (l.take (j + 1)) = dg (l.take j) ++ [l.getD j 0 % 65536, l.getD j 0 / 65536] := by
  unfold dg
  rw [List.take_succ_eq_append_getElem hj, List.flatMap_append, List.getD_eq_getElem?_getD, List.getElem?_eq_getElem hj]
  simp
theorem u32_at (l : List Int) (h : u32ok l = true) (j : Nat) (hj : j < l.length) : 0 ≤ l.getD j 0 ∧ l.getD j 0 < 4294967296 := by
  have := List.all_eq_true.1 h l[j] (List.getElem_mem hj)
  rw [List.getD_eq_getElem?_getD, List.getElem?_eq_getElem hj]
  simp at this
  exact this
theorem digits_l0 (l : List Int) (ho : u32ok l = true) (hl : l.length ≤ 1000000) : ∀ m j k, j + m = l.length → m + 2 * l.length + 1 < k → chirographref01_Digits.l0 k l (dg (l.take j)) (j : Int) = some (tr (dg l))
  | 0, j, k + 1, hj, hk => by
    unfold chirographref01_Digits.l0
    have e : l.take j = l := List.take_of_length_le (by omega)
    rw [if_neg (by omega), e, plain_f _ (by rw [dg_len]; omega) k (by rw [dg_len]; omega)]
    rfl
  | m + 1, j, k + 1, hj, hk => by
    unfold chirographref01_Digits.l0
    have hjl : j < l.length := by omega
    obtain ⟨h0, h1⟩ := u32_at l ho j hjl
    have er : rd l (j : Int) = l.getD j 0 := by simp [rd]
    have ea : bits .and .u32 (l.getD j 0) 65535 = l.getD j 0 % 65536 := by
      obtain ⟨n, hn⟩ : ∃ n : Nat, l.getD j 0 = (n : Int) := ⟨(l.getD j 0).toNat, by omega⟩
      rw [hn]
      have := and32n n 65535 (by omega) (by omega)
      rw [show ((65535 : Nat) : Int) = 65535 from rfl] at this
      rw [this, show (65535 : Nat) = 2 ^ 16 - 1 from rfl, Nat.and_two_pow_sub_one_eq_mod]
      rfl
    rw [if_pos (by omega), if_pos (by omega), er, ea, K.wu64 _ (by omega) (by omega), K.wu64 _ (by omega) (by omega), Option.bind_some, if_pos (by rw [dg_len, List.length_take]; simp; omega), ← dg_succ l j hjl, show wrap64 ((j : Int) + 1) = ((j + 1 : Nat) : Int) by rw [w64in _ (by omega)]; omega]
    exact digits_l0 l ho hl m (j + 1) k (by omega) (by omega)
theorem digits_f (l : List Int) (ho : u32ok l = true) (hl : l.length ≤ 1000000) (k : Nat) (hk : 3 * l.length + 1 < k) : chirographref01_Digits.f k l = some (tr (dg l)) := digits_l0 l ho hl l.length 0 k (by omega) (by omega)
theorem vd_cons (x : Int) (l : List Int) : vd (x :: l) = x.toNat + 65536 * vd l := rfl
theorem vd_append (a b : List Int) : vd (a ++ b) = vd a + 65536 ^ a.length * vd b := by
  induction a with
  | nil => simp [vd]
  | cons x a ih => rw [List.cons_append, vd_cons, vd_cons, ih, List.length_cons, Nat.pow_succ, Nat.mul_add]; rw [← Nat.mul_assoc, Nat.mul_comm 65536 (65536 ^ a.length)]; omega
theorem vd_zeros (l : List Int) (h : ∀ i, i < l.length → l.getD i 0 = 0) : vd l = 0 := by
  induction l with
  | nil => rfl
  | cons x l ih =>
    have h0 := h 0 (by simp)
    have hx : x = 0 := by simpa using h0
    rw [vd_cons, hx, ih (fun i hi => by have := h (i + 1) (by simp; omega); simpa using this)]
    rfl
theorem vd_tr (l : List Int) : vd (tr l) = vd l := by
  have e : l = tr l ++ l.drop (trn l l.length) := (List.take_append_drop _ _).symm
  have hz : vd (l.drop (trn l l.length)) = 0 := vd_zeros _ (fun i hi => by
    rw [List.length_drop] at hi
    have := trn_zero l l.length (trn l l.length + i) (by omega) (by omega)
    rw [List.getD_eq_getElem?_getD, List.getElem?_drop]
    rw [List.getD_eq_getElem?_getD] at this
    exact this)
  conv => rhs; rw [e]
  rw [vd_append, hz]
  omega
theorem vd_dg (l : List Int) (ho : u32ok l = true) : vd (dg l) = vl l := by
  induction l with
  | nil => rfl
  | cons x l ih =>
    rw [u32ok_cons] at ho
    have : dg (x :: l) = x % 65536 :: x / 65536 :: dg l := by simp [dg]
    rw [this, vd_cons, vd_cons, ih ho.2, vl_cons]
    omega
/-- Digits of 16 bits. -/
def D16 (d : List Int) : Prop := ∀ i, i < d.length → 0 ≤ d.getD i 0 ∧ d.getD i 0 < 65536
theorem d16_dg (l : List Int) (ho : u32ok l = true) : ∀ x ∈ dg l, 0 ≤ x ∧ x < 65536 := by
  intro x hx
  unfold dg at hx
  obtain ⟨y, hy, h⟩ := List.mem_flatMap.1 hx
  have hb := List.all_eq_true.1 ho y hy
  simp at hb h
  omega
theorem vd_lt (d : List Int) (h : ∀ x ∈ d, 0 ≤ x ∧ x < 65536) : vd d < 65536 ^ d.length := by
  induction d with
  | nil => simp [vd]
  | cons x d ih =>
    have h1 := ih (fun y hy => h y (List.mem_cons_of_mem _ hy))
    have h2 := h x (List.mem_cons_self ..)
    rw [vd_cons, List.length_cons, Nat.pow_succ]
    omega
theorem vd_digit (d : List Int) (h : ∀ x ∈ d, 0 ≤ x ∧ x < 65536) : ∀ i, i < d.length → vd d / 65536 ^ i % 65536 = (d.getD i 0).toNat := by
  induction d with
  | nil => intro i hi; simp at hi
  | cons x d ih =>
    intro i hi
    have h2 := h x (List.mem_cons_self ..)
    match i with
    | 0 => rw [vd_cons]; simp; omega
    | i + 1 =>
      have := ih (fun y hy => h y (List.mem_cons_of_mem _ hy)) i (by simpa using hi)
      rw [vd_cons, Nat.pow_succ, Nat.mul_comm (65536 ^ i) 65536, ← Nat.div_div_eq_div_mul, show (x.toNat + 65536 * vd d) / 65536 = vd d by omega, this]
      simp
theorem vd_bit (d : List Int) (h : ∀ x ∈ d, 0 ≤ x ∧ x < 65536) (n : Nat) (hn : n < 16 * d.length) : (d.getD (n / 16) 0).toNat / 2 ^ (n % 16) % 2 = vd d / 2 ^ n % 2 := by
  rw [← vd_digit d h (n / 16) (by omega)]
  have e1 : 2 ^ n = 65536 ^ (n / 16) * 2 ^ (n % 16) := by
    rw [show (65536 : Nat) = 2 ^ 16 from rfl, ← Nat.pow_mul, ← Nat.pow_add]
    congr 1
    omega
  rw [e1, ← Nat.div_div_eq_div_mul]
  generalize vd d / 65536 ^ (n / 16) = q
  have hr : n % 16 < 16 := by omega
  have e2 : (65536 : Nat) = 2 ^ (n % 16) * (2 * 2 ^ (15 - n % 16)) := by
    rw [← Nat.mul_assoc, ← Nat.pow_succ, ← Nat.pow_add, show n % 16 + 1 + (15 - n % 16) = 16 by omega]
  rw [e2, Nat.mod_mul_right_div_self, Nat.mod_mul_right_mod]
theorem blen_top (m n : Nat) (h1 : 2 ^ n ≤ m) (h2 : m < 2 ^ (n + 1)) : blen m = ((n + 1 : Nat) : Int) := by
  unfold blen
  have hp := Nat.two_pow_pos n
  rw [if_neg (by omega)]
  have : Nat.log2 m = n := by
    have ha := (Nat.le_log2 (by omega)).2 h1
    have hb := (Nat.log2_lt (by omega)).2 h2
    omega
  rw [this]
theorem bits_l0 (d : List Int) (h : ∀ x ∈ d, 0 ≤ x ∧ x < 65536) (hd : d.length ≤ 1000000) : ∀ n k, n < k → n ≤ 16 * d.length → chirographref01_Bits.l0 k d (n : Int) = some (blen (vd d % 2 ^ n))
  | 0, k + 1, _, _ => by
    unfold chirographref01_Bits.l0
    rw [if_neg (by omega)]
    simp [Nat.mod_one, blen]
  | n + 1, k + 1, hk, hn => by
    unfold chirographref01_Bits.l0
    have e : wrap64 (((n + 1 : Nat) : Int) - 1) = (n : Int) := by rw [show ((n + 1 : Nat) : Int) - 1 = (n : Int) by omega]; exact w64in _ (by omega)
    have e2 : wrap64 (Int.tdiv (n : Int) 16) = ((n / 16 : Nat) : Int) := by
      rw [show Int.tdiv (n : Int) 16 = ((n / 16 : Nat) : Int) from rfl]
      exact w64in _ (by omega)
    have e3 : Int.tmod (n : Int) 16 = ((n % 16 : Nat) : Int) := rfl
    rw [if_pos (by omega), e, e2, e3, if_pos (by omega), if_pos (by omega), if_pos (by omega)]
    have er : rd d ((n / 16 : Nat) : Int) = d.getD (n / 16) 0 := by unfold rd; rw [Int.toNat_natCast]
    have hx : 0 ≤ d.getD (n / 16) 0 ∧ d.getD (n / 16) 0 < 65536 := by
      rw [List.getD_eq_getElem?_getD, List.getElem?_eq_getElem (by omega : n / 16 < d.length)]
      exact h _ (List.getElem_mem _)
    obtain ⟨y, hy⟩ : ∃ y : Nat, d.getD (n / 16) 0 = (y : Int) := ⟨(d.getD (n / 16) 0).toNat, by omega⟩
    have hb := vd_bit d h n (by omega)
    rw [er]
    rw [hy] at hb hx ⊢
    have es : shr .u64 (y : Int) ((n % 16 : Nat) : Int) = ((y / 2 ^ (n % 16) : Nat) : Int) := by
      unfold shr
      rw [Int.toNat_natCast, Nat.min_eq_left (by show n % 16 ≤ 64; omega)]
      push_cast
      rfl
    have hlt : y / 2 ^ (n % 16) ≤ y := Nat.div_le_self _ _
    have ea : bits .and .u64 ((y / 2 ^ (n % 16) : Nat) : Int) 1 = ((y / 2 ^ (n % 16) % 2 : Nat) : Int) := by
      have := and64n (y / 2 ^ (n % 16)) 1 (by omega) (by omega)
      rw [show ((1 : Nat) : Int) = 1 from rfl] at this
      rw [this, Nat.and_one_is_mod]
    rw [es, ea, show y / 2 ^ (n % 16) % 2 = vd d / 2 ^ n % 2 from hb]
    have em : vd d % 2 ^ (n + 1) = vd d % 2 ^ n + 2 ^ n * (vd d / 2 ^ n % 2) := by rw [Nat.pow_succ, Nat.mod_mul]
    have hml : vd d % 2 ^ n < 2 ^ n := Nat.mod_lt _ (Nat.two_pow_pos n)
    rcases (by omega : vd d / 2 ^ n % 2 = 0 ∨ vd d / 2 ^ n % 2 = 1) with h0 | h1
    · rw [if_pos (by rw [h0]; rfl), bits_l0 d h hd n k (by omega) (by omega), em, h0]
      rfl
    · rw [if_neg (by rw [h1]; decide), em, h1, blen_top _ n (by omega) (by rw [Nat.pow_succ]; omega)]
theorem bits_f (l : List Int) (ho : u32ok l = true) (hl : l.length ≤ 600) (k : Nat) (hk : 20000 ≤ k) : chirographref01_Bits.f k l = some (blen (vl l)) := by
  unfold chirographref01_Bits.f
  have hle := tr_le (dg l)
  rw [dg_len] at hle
  have h16 : ∀ x ∈ tr (dg l), 0 ≤ x ∧ x < 65536 := fun x hx => d16_dg l ho x (List.mem_of_mem_take hx)
  rw [digits_f l ho (by omega) k (by omega), Option.bind_some, show wrap64 (16 * ((tr (dg l)).length : Int)) = ((16 * (tr (dg l)).length : Nat) : Int) by rw [w64in _ (by omega)]; omega, bits_l0 _ h16 (by omega) _ k (by omega) (Nat.le_refl _)]
  have hlt := vd_lt _ h16
  rw [show (65536 : Nat) = 2 ^ 16 from rfl, ← Nat.pow_mul] at hlt
  rw [Nat.mod_eq_of_lt hlt, vd_tr, vd_dg l ho]
end Go.Proofs.YtdncmmipopdhbaaDoor.P
end

section
/-
  Plain: which keys may be: the program's answer is the reference's.
-/
set_option linter.unusedVariables false
set_option linter.unusedSimpArgs false
namespace Go.Proofs.YtdncmmipopdhbaaDoor.P
open Go.RowKit Go.Proofs.YtdncmmipopdhbaaDoorW.PrintWords Go.Proofs.YtdncmmipopdhbaaDoorW.PrintLast Go.Proofs.YtdncmmipopdhbaaDoorW.PrintMore

def chk (N E : List Int) : Int :=
  if N.length > 256 then 80 else if E.length > 256 then 80 else if blen (vl N) < 512 then 80 else if blen (vl E) < 2 then 80 else if blen (vl E) > 64 then 80
  else if N.getD 0 0 % 2 = 0 then 80 else if E.getD 0 0 % 2 = 0 then 80 else 0
theorem len_of_blen (l : List Int) (h : 2 ≤ blen (vl l)) : 0 < l.length := by
  cases l with
  | nil => have : blen (vl []) = 0 := rfl; omega
  | cons x l => simp
theorem and_odd (a b : Int) (ha : 0 ≤ a ∧ a < 4294967296) (hb : 0 ≤ b ∧ b < 4294967296) : (bits .and .u32 (bits .and .u32 a b) 1 = 0) ↔ (a % 2 = 0 ∨ b % 2 = 0) := by
  obtain ⟨n, rfl⟩ : ∃ n : Nat, a = (n : Int) := ⟨a.toNat, by omega⟩
  obtain ⟨m, rfl⟩ : ∃ m : Nat, b = (m : Int) := ⟨b.toNat, by omega⟩
  have hlt : n &&& m < 4294967296 := Nat.lt_of_le_of_lt Nat.and_le_left (by omega)
  have e1 := and32n n m (by omega) (by omega)
  have e2 := and32n (n &&& m) 1 hlt (by omega)
  rw [show ((1 : Nat) : Int) = 1 from rfl] at e2
  rw [e1, e2]
  have t : ((n &&& m) &&& 1) = (n &&& m) % 2 := Nat.and_one_is_mod _
  rw [t]
  have h0 := Nat.testBit_and n m 0
  rw [Nat.testBit_zero, Nat.testBit_zero, Nat.testBit_zero] at h0
  have this0 := congrArg (fun b => b = true) h0
  simp only [Bool.and_eq_true, decide_eq_true_eq] at this0
  have : ((n &&& m) % 2 = 1) ↔ (n % 2 = 1 ∧ m % 2 = 1) := by rw [this0]
  omega
theorem prog_check (N E : List Int) (hoN : u32ok N = true) (hoE : u32ok E = true) (hlN : N.length ≤ 600) (hlE : E.length ≤ 600) (k : Nat) : rsa_Check.f (k + 1 + 1) N E = some (chk N E) := by
  unfold rsa_Check.f nat_Bits.f chk
  rw [if_pos ⟨hoN, by omega⟩, if_pos ⟨hoE, by omega⟩, Option.bind_some, Option.bind_some]
  generalize hbN : blen (vl N) = bN
  generalize hbE : blen (vl E) = bE
  have rN : rd N 0 = N.getD 0 0 := rfl
  have rE : rd E 0 = E.getD 0 0 := rfl
  by_cases h1 : N.length > 256
  · rw [if_pos (by omega), if_pos h1]
    rw [rsa_Check.j0]
    rw [if_pos rfl]
  · rw [if_neg (by omega), if_neg h1]
    by_cases h2 : E.length > 256
    · rw [if_pos h2]
      rw [rsa_Check.j0]
      rw [if_pos (by simp; omega)]
    · rw [if_neg h2]
      rw [rsa_Check.j0]
      rw [if_neg (by simp; omega)]
      by_cases h3 : bN < 512
      · rw [if_pos h3, if_pos h3]
      · rw [if_neg h3, if_neg h3]
        by_cases h4 : bE < 2
        · rw [if_pos h4, if_pos h4]
          rw [rsa_Check.j1]
          rw [if_pos rfl]
        · rw [if_neg h4, if_neg h4]
          rw [rsa_Check.j1]
          by_cases h5 : bE > 64
          · rw [if_pos (by simpa using h5), if_pos h5]
          · have lN := len_of_blen N (by omega)
            have lE := len_of_blen E (by omega)
            rw [if_neg (by simpa using h5), if_neg h5, if_pos (by omega), if_pos (by omega), rN, rE]
            have hiff := and_odd _ _ (u32_at N hoN 0 lN) (u32_at E hoE 0 lE)
            by_cases h6 : N.getD 0 0 % 2 = 0
            · rw [if_pos (hiff.2 (.inl h6)), if_pos h6]
            · rw [if_neg h6]
              by_cases h7 : E.getD 0 0 % 2 = 0
              · rw [if_pos (hiff.2 (.inr h7)), if_pos h7]
              · rw [if_neg (fun h => (hiff.1 h).elim h6 h7), if_neg h7]
theorem ref_check (N E : List Int) (hoN : u32ok N = true) (hoE : u32ok E = true) (hlN : N.length ≤ 600) (hlE : E.length ≤ 600) (k : Nat) (hk : 20000 ≤ k) : chirographref08_Check.f k N E = some (chk N E) := by
  unfold chirographref08_Check.f chk
  rw [bits_f N hoN hlN k hk, bits_f E hoE hlE k hk]
  simp only [Option.bind_some]
  generalize hbN : blen (vl N) = bN
  generalize hbE : blen (vl E) = bE
  have rN : rd N 0 = N.getD 0 0 := rfl
  have rE : rd E 0 = E.getD 0 0 := rfl
  by_cases h1 : N.length > 256
  · rw [if_pos (by omega), if_pos h1]
  · rw [if_neg (by omega), if_neg h1]
    by_cases h2 : E.length > 256
    · rw [if_pos (by omega), if_pos h2]
    · rw [if_neg (by omega), if_neg h2]
      by_cases h3 : bN < 512
      · rw [if_pos h3, if_pos h3]
      · rw [if_neg h3, if_neg h3]
        by_cases h4 : bE < 2
        · rw [if_pos h4, if_pos h4]
        · rw [if_neg h4, if_neg h4]
          by_cases h5 : bE > 64
          · rw [if_pos h5, if_pos h5]
          · have lN := len_of_blen N (by omega)
            have lE := len_of_blen E (by omega)
            have uN := u32_at N hoN 0 lN
            have uE := u32_at E hoE 0 lE
            have tN : Int.tmod (N.getD 0 0) 2 = N.getD 0 0 % 2 := Int.tmod_eq_emod_of_nonneg uN.1
            have tE : Int.tmod (E.getD 0 0) 2 = E.getD 0 0 % 2 := Int.tmod_eq_emod_of_nonneg uE.1
            rw [if_neg h5, if_neg h5, if_pos (by omega), rN, rE, tN, tE]
            by_cases h6 : N.getD 0 0 % 2 = 0
            · rw [if_pos h6, if_pos h6]
            · rw [if_neg h6, if_neg h6, if_pos (by omega)]
              by_cases h7 : E.getD 0 0 % 2 = 0
              · rw [if_pos h7, if_pos h7]
              · rw [if_neg h7, if_neg h7]
theorem checks_plain (N E : List Int) (hoN : u32ok N = true) (hoE : u32ok E = true) : ∃ k c s, N.length ≤ 600 → E.length ≤ 600 → rsa_Check.f k N E = some c ∧ chirographref08_Check.f k N E = some c ∧ rsa_Size.f k N E = some s ∧ chirographref08_Size.f k N E = some s := by
  refine ⟨19998 + 2, chk N E, if chk N E = 0 then wrap64 (Int.tdiv (wrap64 (blen (vl N) + 7)) 8) else 0, fun hlN hlE => ?_⟩
  have h1 := prog_check N E hoN hoE hlN hlE 19998
  have h2 := ref_check N E hoN hoE hlN hlE (19998 + 2) (by omega)
  have h3 := bits_f N hoN hlN (19998 + 2) (by omega)
  refine ⟨h1, h2, ?_, ?_⟩
  · have hnb : nat_Bits.f N = some (blen (vl N)) := if_pos ⟨hoN, by omega⟩
    unfold rsa_Size.f
    rw [h1, Option.bind_some, hnb, Option.bind_some]
    split <;> rfl
  · unfold chirographref08_Size.f
    rw [h2, h3, Option.bind_some, Option.bind_some]
    split <;> rfl
end Go.Proofs.YtdncmmipopdhbaaDoor.P
end
