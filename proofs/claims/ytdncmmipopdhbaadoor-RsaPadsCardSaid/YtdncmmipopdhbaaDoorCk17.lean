/-
  Parts of the walks and of the plain laws below the statement (Fchirographref08Known, Fchirographlaw08num, XLive, Fchirographref01plain). Texts named F.. are what the kit's print writes for one function each, through a program of mine that hands it contracts of the functions that it does not take.
-/
import Derived.Test.YtdncmmipopdhbaaDoorCk1
import Derived.Test.YtdncmmipopdhbaaDoorCk14
import Derived.Test.YtdncmmipopdhbaaDoorCk15
import Derived.Test.YtdncmmipopdhbaaDoorCk16
import Derived.Lib.SlBytesConst
section
-- What the print of the kit writes for this function (through a program of mine that hands it contracts of functions that it does not take).
namespace Go.Proofs.YtdncmmipopdhbaaDoor.P
open Go.RowKit Go.Proofs.YtdncmmipopdhbaaDoorW.PrintWords Go.Proofs.YtdncmmipopdhbaaDoorW.PrintLast Go.Proofs.YtdncmmipopdhbaaDoorW.PrintMore
attribute [local go_sem] max2_int min2_int max_two min_two max_three min_three max_four min_four   -- for this text's walks alone
set_option linter.unusedVariables false
set_option linter.unusedSimpArgs false

/-! ### chirographref08_Known: function 24 -/
def chirographref08_Known.f (a0 : Int) : Option (List Int × List Int × List Int) := if a0 = 0 then (some ((([1295419795, 3173228247, 2137395180, 1548933856, 3106420408, 3948765562, 1049120400, 779370009, 4082781268, 1057109357, 1184194943, 1393408190, 1811714008, 4142931574, 3115507167, 2773311948] : List Int)), (([3] : List Int)), (([4047561943, 3660979146, 4003215933, 1116455983, 1700758801, 463339884, 276911730, 3273242993, 4259602957, 2323668540, 3060677354, 1663890463, 3165263865, 2837972243, 519251194, 462218658] : List Int)))) else (if a0 = 1 then (some ((([447526239, 1829156313, 1879515421, 4107444635, 3585720734, 1991253479, 2516768444, 3373017810, 1205978055, 1538251098, 196053331, 1922245038, 2255523067, 1735923309, 2944431911, 868394361, 4017789066, 1470251928, 1835714117, 3624612288, 4242376361, 1111742522, 1457454055, 3904486991] : List Int)), (([65537] : List Int)), (([3621519977, 3268799092, 3739516396, 206456287, 3610635974, 623975115, 3290812447, 1284005469, 2839468200, 1102384690, 247832016, 3318194052, 792414134, 1014899858, 3018861402, 3270484745, 3809549036, 2137766059, 3239253027, 2310304235, 3354661807, 2841138446, 2129838785, 419123029] : List Int)))) else (some ((([2647757785, 1389125602, 1571717152, 2974836829, 3776471463, 3789918380, 265465329, 2705477333, 2528306116, 1305786319, 3012271374, 1555166574, 3737811301, 2107156747, 423797723, 3496193931, 2229497578, 3545628057, 795677410, 3294071916, 3692226254, 2201277676, 1168892286, 3890423924, 3768719188, 1348662635, 838196833, 466793529, 1006143140, 3002503770, 4121073702, 3778180073] : List Int)), (([65537] : List Int)), (([221114889, 4052409353, 3618135462, 3638896212, 41876785, 2981551223, 2886658486, 1775630866, 3447871993, 1687748997, 3209162719, 3268866316, 2051154063, 2544485275, 3760155216, 3752499951, 2496820468, 83771141, 3160279440, 1312331270, 3585048767, 3787517679, 1319449402, 1117739304, 4056262221, 2567164873, 3762953771, 2291027615, 2230826018, 4177935750, 4171126346, 831105070] : List Int)))))
set_option maxHeartbeats 8000000 in
set_option maxRecDepth 100000 in
theorem chirographref08_Known.calls (a0 : Int) (r1 : List Int) (r2 : List Int) (r3 : List Int) (w : World) (h : chirographref08_Known.f a0 = some (r1, r2, r3)) :
    Calls Tryd.prog 24 #[.int .i64 a0] w fun e w' => ∃ v0_ v1_ v2_ : Value, e = .returned (.tuple #[.agg #[v0_, v1_], v2_]) ∧ Kd.R (Kd.int .u32) 46 w' w.heap.size (fun k_ => some k_ ≠ (v1_ : Value).ownBlock ∧ some k_ ≠ (v2_ : Value).ownBlock) v0_ r1 ∧ Kd.R (Kd.int .u32) 46 w' w.heap.size (fun k_ => some k_ ≠ (v0_ : Value).ownBlock ∧ some k_ ≠ (v2_ : Value).ownBlock) v1_ r2 ∧ Kd.R (Kd.int .u32) 46 w' w.heap.size (fun k_ => some k_ ≠ (v0_ : Value).ownBlock ∧ some k_ ≠ (v1_ : Value).ownBlock) v2_ r3 ∧ Below w.heap.size w w' := by
  have hu24 := Tryd.underlying24
  have HB := Aside0.mk (Below.refl w.heap.size w)
  have H : (if a0 = 0 then (some ((([1295419795, 3173228247, 2137395180, 1548933856, 3106420408, 3948765562, 1049120400, 779370009, 4082781268, 1057109357, 1184194943, 1393408190, 1811714008, 4142931574, 3115507167, 2773311948] : List Int)), (([3] : List Int)), (([4047561943, 3660979146, 4003215933, 1116455983, 1700758801, 463339884, 276911730, 3273242993, 4259602957, 2323668540, 3060677354, 1663890463, 3165263865, 2837972243, 519251194, 462218658] : List Int)))) else (if a0 = 1 then (some ((([447526239, 1829156313, 1879515421, 4107444635, 3585720734, 1991253479, 2516768444, 3373017810, 1205978055, 1538251098, 196053331, 1922245038, 2255523067, 1735923309, 2944431911, 868394361, 4017789066, 1470251928, 1835714117, 3624612288, 4242376361, 1111742522, 1457454055, 3904486991] : List Int)), (([65537] : List Int)), (([3621519977, 3268799092, 3739516396, 206456287, 3610635974, 623975115, 3290812447, 1284005469, 2839468200, 1102384690, 247832016, 3318194052, 792414134, 1014899858, 3018861402, 3270484745, 3809549036, 2137766059, 3239253027, 2310304235, 3354661807, 2841138446, 2129838785, 419123029] : List Int)))) else (some ((([2647757785, 1389125602, 1571717152, 2974836829, 3776471463, 3789918380, 265465329, 2705477333, 2528306116, 1305786319, 3012271374, 1555166574, 3737811301, 2107156747, 423797723, 3496193931, 2229497578, 3545628057, 795677410, 3294071916, 3692226254, 2201277676, 1168892286, 3890423924, 3768719188, 1348662635, 838196833, 466793529, 1006143140, 3002503770, 4121073702, 3778180073] : List Int)), (([65537] : List Int)), (([221114889, 4052409353, 3618135462, 3638896212, 41876785, 2981551223, 2886658486, 1775630866, 3447871993, 1687748997, 3209162719, 3268866316, 2051154063, 2544485275, 3760155216, 3752499951, 2496820468, 83771141, 3160279440, 1312331270, 3585048767, 3787517679, 1319449402, 1117739304, 4056262221, 2567164873, 3762953771, 2291027615, 2230826018, 4177935750, 4171126346, 831105070] : List Int)))))) = some (r1, r2, r3) := h
  clear h
  by_cases c2 : a0 = 0
  · rw [if_pos c2] at H
    have c2b0 : (a0 == 0) = true := beq_iff_eq.mpr c2
    have c2b1 : (a0 != 0) = false := bne_eq_false_iff_eq.mpr c2
    clear c2
    obtain ⟨y200, hy200⟩ : ∃ y_ : List Int, y_ = (([1295419795, 3173228247, 2137395180, 1548933856, 3106420408, 3948765562, 1049120400, 779370009, 4082781268, 1057109357, 1184194943, 1393408190, 1811714008, 4142931574, 3115507167, 2773311948] : List Int)) := ⟨_, rfl⟩
    replace H : (some (y200, (([3] : List Int)), (([4047561943, 3660979146, 4003215933, 1116455983, 1700758801, 463339884, 276911730, 3273242993, 4259602957, 2323668540, 3060677354, 1663890463, 3165263865, 2837972243, 519251194, 462218658] : List Int)))) = some (r1, r2, r3) := by first | (rw [hy200]; with_reducible exact H) | (have H2_ := (Option.bind_some _ _).symm.trans H; rw [hy200]; with_reducible exact H2_) | (have H2_ := (Option.bind_some _ _).symm.trans H; with_reducible exact H2_) | with_reducible exact H | (rw [hy200]; exact H) | exact H
    have Ny200 := Aside0.mk hy200
    clear hy200
    obtain ⟨y203, hy203⟩ : ∃ y_ : List Int, y_ = (([3] : List Int)) := ⟨_, rfl⟩
    replace H : (some (y200, y203, (([4047561943, 3660979146, 4003215933, 1116455983, 1700758801, 463339884, 276911730, 3273242993, 4259602957, 2323668540, 3060677354, 1663890463, 3165263865, 2837972243, 519251194, 462218658] : List Int)))) = some (r1, r2, r3) := by first | (rw [hy203]; with_reducible exact H) | (have H2_ := (Option.bind_some _ _).symm.trans H; rw [hy203]; with_reducible exact H2_) | (have H2_ := (Option.bind_some _ _).symm.trans H; with_reducible exact H2_) | with_reducible exact H | (rw [hy203]; exact H) | exact H
    have Ny203 := Aside0.mk hy203
    clear hy203
    obtain ⟨y206, hy206⟩ : ∃ y_ : List Int, y_ = (([4047561943, 3660979146, 4003215933, 1116455983, 1700758801, 463339884, 276911730, 3273242993, 4259602957, 2323668540, 3060677354, 1663890463, 3165263865, 2837972243, 519251194, 462218658] : List Int)) := ⟨_, rfl⟩
    replace H : (some (y200, y203, y206)) = some (r1, r2, r3) := by first | (rw [hy206]; with_reducible exact H) | (have H2_ := (Option.bind_some _ _).symm.trans H; rw [hy206]; with_reducible exact H2_) | (have H2_ := (Option.bind_some _ _).symm.trans H; with_reducible exact H2_) | with_reducible exact H | (rw [hy206]; exact H) | exact H
    have Ny206 := Aside0.mk hy206
    clear hy206
    simp only [Option.some.injEq, Prod.mk.injEq] at H
    obtain ⟨rfl, rfl, rfl⟩ := H
    go_enter Tryd.func24, Tryd.ntmps24
    go_wp2_with (first | ((with_reducible refine gate_dst (N := 2) rfl ?_); refine box_event ?hg (N := 2) ?hd (cs := #[.slice none 0 0, .slice none 0 0]) (t := 24) ?hr ?_; (case hd => rfl); (case hg => rfl); (case hr => first | (go_simp; done) | (go_simp; rfl)); intro gb199 hg w3 hbox hb; have n0_ := Aside0.mk (below_step (by repeat (first | (with_reducible first | exact HB.out | apply below_alloc | apply pw_below_drewN | apply below_drew1) | exact HB.out)) hb); have n1_ := Aside0.mk (hbox); have n2_ := Aside0.mk ((by rw [hg]; exact (below_size (by repeat (first | (with_reducible first | exact HB.out | apply below_alloc | apply pw_below_drewN | apply below_drew1) | exact HB.out))) : w.heap.size ≤ gb199)); have n3_ := Aside0.mk ((by rw [hg]; exact (below_size (by repeat (first | (with_reducible first | exact HB.out | apply below_alloc | apply pw_below_drewN | apply below_drew1) | exact HB.out))) : w.heap.size ≤ gb199)); clear HB; have HB := n0_; have BK199 := n1_; have GW199 := n2_; have GE199 := n3_; clear n0_ n1_ n2_ n3_; clear hb hbox hg) | ((with_reducible refine gate_dst (N := 7) rfl ?_); refine Kd.R_lit (Kd.int .u32) _ 46 ?hg (N := 7) ?hd (xs := ([1295419795, 3173228247, 2137395180, 1548933856, 3106420408, 3948765562, 1049120400, 779370009, 4082781268, 1057109357, 1184194943, 1393408190, 1811714008, 4142931574, 3115507167, 2773311948] : List Int)) (inner := [.int .u32 1295419795, .int .u32 3173228247, .int .u32 2137395180, .int .u32 1548933856, .int .u32 3106420408, .int .u32 3948765562, .int .u32 1049120400, .int .u32 779370009, .int .u32 4082781268, .int .u32 1057109357, .int .u32 1184194943, .int .u32 1393408190, .int .u32 1811714008, .int .u32 4142931574, .int .u32 3115507167, .int .u32 2773311948]) (ok := fun _ => True) (okp := fun _ => True) ?hr ?hp (fun _ hk => hk) trivial (Below.refl _ _) (Nat.le_refl _) (by simp) ?_; (case hd => rfl); (case hg => rfl); (case hr => first | (go_simp; done) | (go_simp; rfl)); (case hp => exact (Reps.one (show Kd.M (Kd.int .u32) _ _ _ 1295419795 [.int .u32 1295419795] from rfl) (Reps.one (show Kd.M (Kd.int .u32) _ _ _ 3173228247 [.int .u32 3173228247] from rfl) (Reps.one (show Kd.M (Kd.int .u32) _ _ _ 2137395180 [.int .u32 2137395180] from rfl) (Reps.one (show Kd.M (Kd.int .u32) _ _ _ 1548933856 [.int .u32 1548933856] from rfl) (Reps.one (show Kd.M (Kd.int .u32) _ _ _ 3106420408 [.int .u32 3106420408] from rfl) (Reps.one (show Kd.M (Kd.int .u32) _ _ _ 3948765562 [.int .u32 3948765562] from rfl) (Reps.one (show Kd.M (Kd.int .u32) _ _ _ 1049120400 [.int .u32 1049120400] from rfl) (Reps.one (show Kd.M (Kd.int .u32) _ _ _ 779370009 [.int .u32 779370009] from rfl) (Reps.one (show Kd.M (Kd.int .u32) _ _ _ 4082781268 [.int .u32 4082781268] from rfl) (Reps.one (show Kd.M (Kd.int .u32) _ _ _ 1057109357 [.int .u32 1057109357] from rfl) (Reps.one (show Kd.M (Kd.int .u32) _ _ _ 1184194943 [.int .u32 1184194943] from rfl) (Reps.one (show Kd.M (Kd.int .u32) _ _ _ 1393408190 [.int .u32 1393408190] from rfl) (Reps.one (show Kd.M (Kd.int .u32) _ _ _ 1811714008 [.int .u32 1811714008] from rfl) (Reps.one (show Kd.M (Kd.int .u32) _ _ _ 4142931574 [.int .u32 4142931574] from rfl) (Reps.one (show Kd.M (Kd.int .u32) _ _ _ 3115507167 [.int .u32 3115507167] from rfl) (Reps.one (show Kd.M (Kd.int .u32) _ _ _ 2773311948 [.int .u32 2773311948] from rfl) (Reps.none _ _)))))))))))))))))); intro v201 w4 ho5 hb hg_ hnew_; clear hg_ hnew_; (first | rw [← Ny200.out] at ho5 | (simp only [Int.reduceToNat] at ho5; rw [← Ny200.out] at ho5)); have n0_ := Aside0.mk (Kd.R_lower ho5 (below_size (by repeat (first | (with_reducible first | exact HB.out | apply below_alloc | apply pw_below_drewN | apply below_drew1 | refine below_set ?_ GE199.out) | exact HB.out)))); have n1_ := Aside0.mk (blk_below (g := gb199) (o := .cells #[.slice none 0 0, .slice none 0 0] 24 (0, 0)) (by (with_reducible repeat (first | refine blk_drewN ?_ _ | refine blk_drew ?_ | refine blk_alloc ?_ _)); exact BK199.out) hb); have n2_ := Aside0.mk (below_step (by repeat (first | (with_reducible first | exact HB.out | apply below_alloc | apply pw_below_drewN | apply below_drew1 | refine below_set ?_ GE199.out) | exact HB.out)) hb); clear BK199; clear HB; have HO202 := n0_; have BK199 := n1_; have HB := n2_; clear n0_ n1_ n2_; clear hb ho5) | ((with_reducible refine gate_dst (N := 8) rfl ?_); refine Kd.R_lit (Kd.int .u32) _ 46 ?hg (N := 8) ?hd (xs := ([3] : List Int)) (inner := [.int .u32 3]) (ok := fun _ => True) (okp := fun _ => True) ?hr ?hp (fun _ hk => hk) trivial (Below.refl _ _) (Nat.le_refl _) (by simp) ?_; (case hd => rfl); (case hg => rfl); (case hr => first | (go_simp; done) | (go_simp; rfl)); (case hp => exact (Reps.one (show Kd.M (Kd.int .u32) _ _ _ 3 [.int .u32 3] from rfl) (Reps.none _ _))); intro v204 w6 ho7 hb hg_ hnew_; clear hg_ hnew_; (first | rw [← Ny203.out] at ho7 | (simp only [Int.reduceToNat] at ho7; rw [← Ny203.out] at ho7)); have n0_ := Aside0.mk (Kd.R_elder' (by (with_reducible repeat (first | apply Kd.R_alloc | apply Kd.R_drewN | apply Kd.R_drew)); exact HO202.out) (Kd.R_base ho7) hb); have n1_ := Aside0.mk (Kd.R_lower (Kd.R_new' ho7 (Kd.R_lt (by (with_reducible repeat (first | apply Kd.R_alloc | apply Kd.R_drewN | apply Kd.R_drew)); exact HO202.out))) (below_size (by repeat (first | (with_reducible first | exact HB.out | apply below_alloc | apply pw_below_drewN | apply below_drew1 | refine below_set ?_ GE199.out) | exact HB.out)))); have n2_ := Aside0.mk (blk_below (g := gb199) (o := .cells #[.slice none 0 0, .slice none 0 0] 24 (0, 0)) (by (with_reducible repeat (first | refine blk_drewN ?_ _ | refine blk_drew ?_ | refine blk_alloc ?_ _)); exact BK199.out) hb); have n3_ := Aside0.mk (below_step (by repeat (first | (with_reducible first | exact HB.out | apply below_alloc | apply pw_below_drewN | apply below_drew1 | refine below_set ?_ GE199.out) | exact HB.out)) hb); clear HO202; clear BK199; clear HB; have HO202 := n0_; have HO205 := n1_; have BK199 := n2_; have HB := n3_; clear n0_ n1_ n2_ n3_; clear hb ho7; obtain ⟨Ao8, co8, eo8⟩ := Kd.R_slice HO205.out; subst eo8; obtain ⟨Ao9, co9, eo9⟩ := Kd.R_slice HO202.out; subst eo9) | ((with_reducible refine gate_dst (N := 10) rfl ?_); refine Kd.R_lit (Kd.int .u32) _ 46 ?hg (N := 10) ?hd (xs := ([4047561943, 3660979146, 4003215933, 1116455983, 1700758801, 463339884, 276911730, 3273242993, 4259602957, 2323668540, 3060677354, 1663890463, 3165263865, 2837972243, 519251194, 462218658] : List Int)) (inner := [.int .u32 4047561943, .int .u32 3660979146, .int .u32 4003215933, .int .u32 1116455983, .int .u32 1700758801, .int .u32 463339884, .int .u32 276911730, .int .u32 3273242993, .int .u32 4259602957, .int .u32 2323668540, .int .u32 3060677354, .int .u32 1663890463, .int .u32 3165263865, .int .u32 2837972243, .int .u32 519251194, .int .u32 462218658]) (ok := fun _ => True) (okp := fun _ => True) ?hr ?hp (fun _ hk => hk) trivial (Below.refl _ _) (Nat.le_refl _) (by simp) ?_; (case hd => rfl); (case hg => rfl); (case hr => first | (go_simp; done) | (go_simp; rfl)); (case hp => exact (Reps.one (show Kd.M (Kd.int .u32) _ _ _ 4047561943 [.int .u32 4047561943] from rfl) (Reps.one (show Kd.M (Kd.int .u32) _ _ _ 3660979146 [.int .u32 3660979146] from rfl) (Reps.one (show Kd.M (Kd.int .u32) _ _ _ 4003215933 [.int .u32 4003215933] from rfl) (Reps.one (show Kd.M (Kd.int .u32) _ _ _ 1116455983 [.int .u32 1116455983] from rfl) (Reps.one (show Kd.M (Kd.int .u32) _ _ _ 1700758801 [.int .u32 1700758801] from rfl) (Reps.one (show Kd.M (Kd.int .u32) _ _ _ 463339884 [.int .u32 463339884] from rfl) (Reps.one (show Kd.M (Kd.int .u32) _ _ _ 276911730 [.int .u32 276911730] from rfl) (Reps.one (show Kd.M (Kd.int .u32) _ _ _ 3273242993 [.int .u32 3273242993] from rfl) (Reps.one (show Kd.M (Kd.int .u32) _ _ _ 4259602957 [.int .u32 4259602957] from rfl) (Reps.one (show Kd.M (Kd.int .u32) _ _ _ 2323668540 [.int .u32 2323668540] from rfl) (Reps.one (show Kd.M (Kd.int .u32) _ _ _ 3060677354 [.int .u32 3060677354] from rfl) (Reps.one (show Kd.M (Kd.int .u32) _ _ _ 1663890463 [.int .u32 1663890463] from rfl) (Reps.one (show Kd.M (Kd.int .u32) _ _ _ 3165263865 [.int .u32 3165263865] from rfl) (Reps.one (show Kd.M (Kd.int .u32) _ _ _ 2837972243 [.int .u32 2837972243] from rfl) (Reps.one (show Kd.M (Kd.int .u32) _ _ _ 519251194 [.int .u32 519251194] from rfl) (Reps.one (show Kd.M (Kd.int .u32) _ _ _ 462218658 [.int .u32 462218658] from rfl) (Reps.none _ _)))))))))))))))))); intro v207 w10 ho11 hb hg_ hnew_; clear hg_ hnew_; (first | rw [← Ny206.out] at ho11 | (simp only [Int.reduceToNat] at ho11; rw [← Ny206.out] at ho11)); have n0_ := Aside0.mk (Kd.R_elder' (by (with_reducible repeat (first | apply Kd.R_alloc | apply Kd.R_drewN | apply Kd.R_drew)); exact HO202.out) (Kd.R_base ho11) hb); have n1_ := Aside0.mk (Kd.R_elder' (by (with_reducible repeat (first | apply Kd.R_alloc | apply Kd.R_drewN | apply Kd.R_drew)); exact HO205.out) (Kd.R_base ho11) hb); have n2_ := Aside0.mk (Kd.R_lower (Kd.R_new' (Kd.R_new' ho11 (Kd.R_lt (by (with_reducible repeat (first | apply Kd.R_alloc | apply Kd.R_drewN | apply Kd.R_drew)); exact HO202.out))) (Kd.R_lt (by (with_reducible repeat (first | apply Kd.R_alloc | apply Kd.R_drewN | apply Kd.R_drew)); exact HO205.out))) (below_size (by repeat (first | (with_reducible first | exact HB.out | apply below_alloc | apply pw_below_drewN | apply below_drew1 | refine below_set ?_ GE199.out) | exact HB.out)))); have n3_ := Aside0.mk (blk_below (g := gb199) (o := .cells #[.slice none 0 0, .slice none 0 0] 24 (0, 0)) (by (with_reducible repeat (first | refine blk_drewN ?_ _ | refine blk_drew ?_ | refine blk_alloc ?_ _)); exact BK199.out) hb); have n4_ := Aside0.mk (below_step (by repeat (first | (with_reducible first | exact HB.out | apply below_alloc | apply pw_below_drewN | apply below_drew1 | refine below_set ?_ GE199.out) | exact HB.out)) hb); clear HO202; clear HO205; clear BK199; clear HB; have HO202 := n0_; have HO205 := n1_; have HO208 := n2_; have BK199 := n3_; have HB := n4_; clear n0_ n1_ n2_ n3_ n4_; clear hb ho11; have hcz12_0 : w10.cell? ⟨gb199, 0, none⟩ = some (.slice none 0 0) := (blk_cell BK199.out 0).trans rfl; have hcz12_1 : w10.cell? ⟨gb199, 1, none⟩ = some (.slice none 0 0) := (blk_cell BK199.out 1).trans rfl; have hfz12_0 := blk_frozen BK199.out 0; have hfz12_1 := blk_frozen BK199.out 1))
    refine bodyPost_ret (results_ct rfl _ _ gb199 24 #[.slice Ao9 y200.length co9, .slice Ao8 y203.length co8] (0, 0) _ rfl (by (with_reducible repeat (first | refine blk_drewN ?_ _ | refine blk_drew ?_ | refine blk_alloc ?_ _)); refine blk_put (cs := #[.slice Ao9 y200.length co9, .slice none 0 0]) ?_ 1 _ rfl; (with_reducible repeat (first | refine blk_drewN ?_ _ | refine blk_drew ?_ | refine blk_alloc ?_ _)); refine blk_put (cs := #[.slice none 0 0, .slice none 0 0]) ?_ 0 _ rfl; (with_reducible repeat (first | refine blk_drewN ?_ _ | refine blk_drew ?_ | refine blk_alloc ?_ _)); exact BK199.out) Tryd.underlying24 rfl (by kernel_rfl)) rfl ?_
    exact ⟨_, _, _, by first | rfl | (simp [errW_none, errW_some] <;> rfl) | (simp [*, errW_none, errW_some] <;> rfl), by (with_reducible repeat (first | apply Kd.R_alloc | apply Kd.R_drewN | apply Kd.R_drew)); exact Kd.R_mono (Kd.R_far (p := ⟨gb199, 1, none⟩) (Kd.R_far (p := ⟨gb199, 0, none⟩) (Kd.R_types HO202.out BK199.out (by decide)) (fun _ hk => hk.2) (.slice Ao9 y200.length co9)) (fun _ hk => hk.2) (.slice Ao8 y203.length co8)) (fun _ hk => ⟨hk.1.1.2, hk.1.2⟩), by (with_reducible repeat (first | apply Kd.R_alloc | apply Kd.R_drewN | apply Kd.R_drew)); exact Kd.R_mono (Kd.R_far (p := ⟨gb199, 1, none⟩) (Kd.R_far (p := ⟨gb199, 0, none⟩) (Kd.R_types HO205.out BK199.out (by decide)) (fun _ hk => hk.2) (.slice Ao9 y200.length co9)) (fun _ hk => hk.2) (.slice Ao8 y203.length co8)) (fun _ hk => ⟨hk.1.1.2, hk.1.2⟩), by (with_reducible repeat (first | apply Kd.R_alloc | apply Kd.R_drewN | apply Kd.R_drew)); exact Kd.R_mono (Kd.R_far (p := ⟨gb199, 1, none⟩) (Kd.R_far (p := ⟨gb199, 0, none⟩) (Kd.R_types HO208.out BK199.out (by decide)) (fun _ hk => hk.2) (.slice Ao9 y200.length co9)) (fun _ hk => hk.2) (.slice Ao8 y203.length co8)) (fun _ hk => ⟨hk.1.1.2, hk.1.2⟩), by repeat (first | (with_reducible first | exact HB.out | apply below_alloc | apply pw_below_drewN | apply below_drew1 | refine below_set ?_ GE199.out) | exact HB.out)⟩
  · rw [if_neg c2] at H
    have c2b0 : (a0 == 0) = false := beq_eq_false_iff_ne.mpr c2
    have c2b1 : (a0 != 0) = true := bne_iff_ne.mpr c2
    by_cases c13 : a0 = 1
    · rw [if_pos c13] at H
      have c13b0 : (a0 == 1) = true := beq_iff_eq.mpr c13
      have c13b1 : (a0 != 1) = false := bne_eq_false_iff_eq.mpr c13
      clear c13
      obtain ⟨y209, hy209⟩ : ∃ y_ : List Int, y_ = (([447526239, 1829156313, 1879515421, 4107444635, 3585720734, 1991253479, 2516768444, 3373017810, 1205978055, 1538251098, 196053331, 1922245038, 2255523067, 1735923309, 2944431911, 868394361, 4017789066, 1470251928, 1835714117, 3624612288, 4242376361, 1111742522, 1457454055, 3904486991] : List Int)) := ⟨_, rfl⟩
      replace H : (some (y209, (([65537] : List Int)), (([3621519977, 3268799092, 3739516396, 206456287, 3610635974, 623975115, 3290812447, 1284005469, 2839468200, 1102384690, 247832016, 3318194052, 792414134, 1014899858, 3018861402, 3270484745, 3809549036, 2137766059, 3239253027, 2310304235, 3354661807, 2841138446, 2129838785, 419123029] : List Int)))) = some (r1, r2, r3) := by first | (rw [hy209]; with_reducible exact H) | (have H2_ := (Option.bind_some _ _).symm.trans H; rw [hy209]; with_reducible exact H2_) | (have H2_ := (Option.bind_some _ _).symm.trans H; with_reducible exact H2_) | with_reducible exact H | (rw [hy209]; exact H) | exact H
      have Ny209 := Aside0.mk hy209
      clear hy209
      obtain ⟨y212, hy212⟩ : ∃ y_ : List Int, y_ = (([65537] : List Int)) := ⟨_, rfl⟩
      replace H : (some (y209, y212, (([3621519977, 3268799092, 3739516396, 206456287, 3610635974, 623975115, 3290812447, 1284005469, 2839468200, 1102384690, 247832016, 3318194052, 792414134, 1014899858, 3018861402, 3270484745, 3809549036, 2137766059, 3239253027, 2310304235, 3354661807, 2841138446, 2129838785, 419123029] : List Int)))) = some (r1, r2, r3) := by first | (rw [hy212]; with_reducible exact H) | (have H2_ := (Option.bind_some _ _).symm.trans H; rw [hy212]; with_reducible exact H2_) | (have H2_ := (Option.bind_some _ _).symm.trans H; with_reducible exact H2_) | with_reducible exact H | (rw [hy212]; exact H) | exact H
      have Ny212 := Aside0.mk hy212
      clear hy212
      obtain ⟨y215, hy215⟩ : ∃ y_ : List Int, y_ = (([3621519977, 3268799092, 3739516396, 206456287, 3610635974, 623975115, 3290812447, 1284005469, 2839468200, 1102384690, 247832016, 3318194052, 792414134, 1014899858, 3018861402, 3270484745, 3809549036, 2137766059, 3239253027, 2310304235, 3354661807, 2841138446, 2129838785, 419123029] : List Int)) := ⟨_, rfl⟩
      replace H : (some (y209, y212, y215)) = some (r1, r2, r3) := by first | (rw [hy215]; with_reducible exact H) | (have H2_ := (Option.bind_some _ _).symm.trans H; rw [hy215]; with_reducible exact H2_) | (have H2_ := (Option.bind_some _ _).symm.trans H; with_reducible exact H2_) | with_reducible exact H | (rw [hy215]; exact H) | exact H
      have Ny215 := Aside0.mk hy215
      clear hy215
      simp only [Option.some.injEq, Prod.mk.injEq] at H
      obtain ⟨rfl, rfl, rfl⟩ := H
      go_enter Tryd.func24, Tryd.ntmps24
      go_wp2_with (first | ((with_reducible refine gate_dst (N := 2) rfl ?_); refine box_event ?hg (N := 2) ?hd (cs := #[.slice none 0 0, .slice none 0 0]) (t := 24) ?hr ?_; (case hd => rfl); (case hg => rfl); (case hr => first | (go_simp; done) | (go_simp; rfl)); intro gb199 hg w14 hbox hb; have n0_ := Aside0.mk (below_step (by repeat (first | (with_reducible first | exact HB.out | apply below_alloc | apply pw_below_drewN | apply below_drew1) | exact HB.out)) hb); have n1_ := Aside0.mk (hbox); have n2_ := Aside0.mk ((by rw [hg]; exact (below_size (by repeat (first | (with_reducible first | exact HB.out | apply below_alloc | apply pw_below_drewN | apply below_drew1) | exact HB.out))) : w.heap.size ≤ gb199)); have n3_ := Aside0.mk ((by rw [hg]; exact (below_size (by repeat (first | (with_reducible first | exact HB.out | apply below_alloc | apply pw_below_drewN | apply below_drew1) | exact HB.out))) : w.heap.size ≤ gb199)); clear HB; have HB := n0_; have BK199 := n1_; have GW199 := n2_; have GE199 := n3_; clear n0_ n1_ n2_ n3_; clear hb hbox hg) | ((with_reducible refine gate_dst (N := 13) rfl ?_); refine Kd.R_lit (Kd.int .u32) _ 46 ?hg (N := 13) ?hd (xs := ([447526239, 1829156313, 1879515421, 4107444635, 3585720734, 1991253479, 2516768444, 3373017810, 1205978055, 1538251098, 196053331, 1922245038, 2255523067, 1735923309, 2944431911, 868394361, 4017789066, 1470251928, 1835714117, 3624612288, 4242376361, 1111742522, 1457454055, 3904486991] : List Int)) (inner := [.int .u32 447526239, .int .u32 1829156313, .int .u32 1879515421, .int .u32 4107444635, .int .u32 3585720734, .int .u32 1991253479, .int .u32 2516768444, .int .u32 3373017810, .int .u32 1205978055, .int .u32 1538251098, .int .u32 196053331, .int .u32 1922245038, .int .u32 2255523067, .int .u32 1735923309, .int .u32 2944431911, .int .u32 868394361, .int .u32 4017789066, .int .u32 1470251928, .int .u32 1835714117, .int .u32 3624612288, .int .u32 4242376361, .int .u32 1111742522, .int .u32 1457454055, .int .u32 3904486991]) (ok := fun _ => True) (okp := fun _ => True) ?hr ?hp (fun _ hk => hk) trivial (Below.refl _ _) (Nat.le_refl _) (by simp) ?_; (case hd => rfl); (case hg => rfl); (case hr => first | (go_simp; done) | (go_simp; rfl)); (case hp => exact (Reps.one (show Kd.M (Kd.int .u32) _ _ _ 447526239 [.int .u32 447526239] from rfl) (Reps.one (show Kd.M (Kd.int .u32) _ _ _ 1829156313 [.int .u32 1829156313] from rfl) (Reps.one (show Kd.M (Kd.int .u32) _ _ _ 1879515421 [.int .u32 1879515421] from rfl) (Reps.one (show Kd.M (Kd.int .u32) _ _ _ 4107444635 [.int .u32 4107444635] from rfl) (Reps.one (show Kd.M (Kd.int .u32) _ _ _ 3585720734 [.int .u32 3585720734] from rfl) (Reps.one (show Kd.M (Kd.int .u32) _ _ _ 1991253479 [.int .u32 1991253479] from rfl) (Reps.one (show Kd.M (Kd.int .u32) _ _ _ 2516768444 [.int .u32 2516768444] from rfl) (Reps.one (show Kd.M (Kd.int .u32) _ _ _ 3373017810 [.int .u32 3373017810] from rfl) (Reps.one (show Kd.M (Kd.int .u32) _ _ _ 1205978055 [.int .u32 1205978055] from rfl) (Reps.one (show Kd.M (Kd.int .u32) _ _ _ 1538251098 [.int .u32 1538251098] from rfl) (Reps.one (show Kd.M (Kd.int .u32) _ _ _ 196053331 [.int .u32 196053331] from rfl) (Reps.one (show Kd.M (Kd.int .u32) _ _ _ 1922245038 [.int .u32 1922245038] from rfl) (Reps.one (show Kd.M (Kd.int .u32) _ _ _ 2255523067 [.int .u32 2255523067] from rfl) (Reps.one (show Kd.M (Kd.int .u32) _ _ _ 1735923309 [.int .u32 1735923309] from rfl) (Reps.one (show Kd.M (Kd.int .u32) _ _ _ 2944431911 [.int .u32 2944431911] from rfl) (Reps.one (show Kd.M (Kd.int .u32) _ _ _ 868394361 [.int .u32 868394361] from rfl) (Reps.one (show Kd.M (Kd.int .u32) _ _ _ 4017789066 [.int .u32 4017789066] from rfl) (Reps.one (show Kd.M (Kd.int .u32) _ _ _ 1470251928 [.int .u32 1470251928] from rfl) (Reps.one (show Kd.M (Kd.int .u32) _ _ _ 1835714117 [.int .u32 1835714117] from rfl) (Reps.one (show Kd.M (Kd.int .u32) _ _ _ 3624612288 [.int .u32 3624612288] from rfl) (Reps.one (show Kd.M (Kd.int .u32) _ _ _ 4242376361 [.int .u32 4242376361] from rfl) (Reps.one (show Kd.M (Kd.int .u32) _ _ _ 1111742522 [.int .u32 1111742522] from rfl) (Reps.one (show Kd.M (Kd.int .u32) _ _ _ 1457454055 [.int .u32 1457454055] from rfl) (Reps.one (show Kd.M (Kd.int .u32) _ _ _ 3904486991 [.int .u32 3904486991] from rfl) (Reps.none _ _)))))))))))))))))))))))))); intro v210 w15 ho16 hb hg_ hnew_; clear hg_ hnew_; (first | rw [← Ny209.out] at ho16 | (simp only [Int.reduceToNat] at ho16; rw [← Ny209.out] at ho16)); have n0_ := Aside0.mk (Kd.R_lower ho16 (below_size (by repeat (first | (with_reducible first | exact HB.out | apply below_alloc | apply pw_below_drewN | apply below_drew1 | refine below_set ?_ GE199.out) | exact HB.out)))); have n1_ := Aside0.mk (blk_below (g := gb199) (o := .cells #[.slice none 0 0, .slice none 0 0] 24 (0, 0)) (by (with_reducible repeat (first | refine blk_drewN ?_ _ | refine blk_drew ?_ | refine blk_alloc ?_ _)); exact BK199.out) hb); have n2_ := Aside0.mk (below_step (by repeat (first | (with_reducible first | exact HB.out | apply below_alloc | apply pw_below_drewN | apply below_drew1 | refine below_set ?_ GE199.out) | exact HB.out)) hb); clear BK199; clear HB; have HO211 := n0_; have BK199 := n1_; have HB := n2_; clear n0_ n1_ n2_; clear hb ho16) | ((with_reducible refine gate_dst (N := 14) rfl ?_); refine Kd.R_lit (Kd.int .u32) _ 46 ?hg (N := 14) ?hd (xs := ([65537] : List Int)) (inner := [.int .u32 65537]) (ok := fun _ => True) (okp := fun _ => True) ?hr ?hp (fun _ hk => hk) trivial (Below.refl _ _) (Nat.le_refl _) (by simp) ?_; (case hd => rfl); (case hg => rfl); (case hr => first | (go_simp; done) | (go_simp; rfl)); (case hp => exact (Reps.one (show Kd.M (Kd.int .u32) _ _ _ 65537 [.int .u32 65537] from rfl) (Reps.none _ _))); intro v213 w17 ho18 hb hg_ hnew_; clear hg_ hnew_; (first | rw [← Ny212.out] at ho18 | (simp only [Int.reduceToNat] at ho18; rw [← Ny212.out] at ho18)); have n0_ := Aside0.mk (Kd.R_elder' (by (with_reducible repeat (first | apply Kd.R_alloc | apply Kd.R_drewN | apply Kd.R_drew)); exact HO211.out) (Kd.R_base ho18) hb); have n1_ := Aside0.mk (Kd.R_lower (Kd.R_new' ho18 (Kd.R_lt (by (with_reducible repeat (first | apply Kd.R_alloc | apply Kd.R_drewN | apply Kd.R_drew)); exact HO211.out))) (below_size (by repeat (first | (with_reducible first | exact HB.out | apply below_alloc | apply pw_below_drewN | apply below_drew1 | refine below_set ?_ GE199.out) | exact HB.out)))); have n2_ := Aside0.mk (blk_below (g := gb199) (o := .cells #[.slice none 0 0, .slice none 0 0] 24 (0, 0)) (by (with_reducible repeat (first | refine blk_drewN ?_ _ | refine blk_drew ?_ | refine blk_alloc ?_ _)); exact BK199.out) hb); have n3_ := Aside0.mk (below_step (by repeat (first | (with_reducible first | exact HB.out | apply below_alloc | apply pw_below_drewN | apply below_drew1 | refine below_set ?_ GE199.out) | exact HB.out)) hb); clear HO211; clear BK199; clear HB; have HO211 := n0_; have HO214 := n1_; have BK199 := n2_; have HB := n3_; clear n0_ n1_ n2_ n3_; clear hb ho18; obtain ⟨Ao19, co19, eo19⟩ := Kd.R_slice HO214.out; subst eo19; obtain ⟨Ao20, co20, eo20⟩ := Kd.R_slice HO211.out; subst eo20) | ((with_reducible refine gate_dst (N := 16) rfl ?_); refine Kd.R_lit (Kd.int .u32) _ 46 ?hg (N := 16) ?hd (xs := ([3621519977, 3268799092, 3739516396, 206456287, 3610635974, 623975115, 3290812447, 1284005469, 2839468200, 1102384690, 247832016, 3318194052, 792414134, 1014899858, 3018861402, 3270484745, 3809549036, 2137766059, 3239253027, 2310304235, 3354661807, 2841138446, 2129838785, 419123029] : List Int)) (inner := [.int .u32 3621519977, .int .u32 3268799092, .int .u32 3739516396, .int .u32 206456287, .int .u32 3610635974, .int .u32 623975115, .int .u32 3290812447, .int .u32 1284005469, .int .u32 2839468200, .int .u32 1102384690, .int .u32 247832016, .int .u32 3318194052, .int .u32 792414134, .int .u32 1014899858, .int .u32 3018861402, .int .u32 3270484745, .int .u32 3809549036, .int .u32 2137766059, .int .u32 3239253027, .int .u32 2310304235, .int .u32 3354661807, .int .u32 2841138446, .int .u32 2129838785, .int .u32 419123029]) (ok := fun _ => True) (okp := fun _ => True) ?hr ?hp (fun _ hk => hk) trivial (Below.refl _ _) (Nat.le_refl _) (by simp) ?_; (case hd => rfl); (case hg => rfl); (case hr => first | (go_simp; done) | (go_simp; rfl)); (case hp => exact (Reps.one (show Kd.M (Kd.int .u32) _ _ _ 3621519977 [.int .u32 3621519977] from rfl) (Reps.one (show Kd.M (Kd.int .u32) _ _ _ 3268799092 [.int .u32 3268799092] from rfl) (Reps.one (show Kd.M (Kd.int .u32) _ _ _ 3739516396 [.int .u32 3739516396] from rfl) (Reps.one (show Kd.M (Kd.int .u32) _ _ _ 206456287 [.int .u32 206456287] from rfl) (Reps.one (show Kd.M (Kd.int .u32) _ _ _ 3610635974 [.int .u32 3610635974] from rfl) (Reps.one (show Kd.M (Kd.int .u32) _ _ _ 623975115 [.int .u32 623975115] from rfl) (Reps.one (show Kd.M (Kd.int .u32) _ _ _ 3290812447 [.int .u32 3290812447] from rfl) (Reps.one (show Kd.M (Kd.int .u32) _ _ _ 1284005469 [.int .u32 1284005469] from rfl) (Reps.one (show Kd.M (Kd.int .u32) _ _ _ 2839468200 [.int .u32 2839468200] from rfl) (Reps.one (show Kd.M (Kd.int .u32) _ _ _ 1102384690 [.int .u32 1102384690] from rfl) (Reps.one (show Kd.M (Kd.int .u32) _ _ _ 247832016 [.int .u32 247832016] from rfl) (Reps.one (show Kd.M (Kd.int .u32) _ _ _ 3318194052 [.int .u32 3318194052] from rfl) (Reps.one (show Kd.M (Kd.int .u32) _ _ _ 792414134 [.int .u32 792414134] from rfl) (Reps.one (show Kd.M (Kd.int .u32) _ _ _ 1014899858 [.int .u32 1014899858] from rfl) (Reps.one (show Kd.M (Kd.int .u32) _ _ _ 3018861402 [.int .u32 3018861402] from rfl) (Reps.one (show Kd.M (Kd.int .u32) _ _ _ 3270484745 [.int .u32 3270484745] from rfl) (Reps.one (show Kd.M (Kd.int .u32) _ _ _ 3809549036 [.int .u32 3809549036] from rfl) (Reps.one (show Kd.M (Kd.int .u32) _ _ _ 2137766059 [.int .u32 2137766059] from rfl) (Reps.one (show Kd.M (Kd.int .u32) _ _ _ 3239253027 [.int .u32 3239253027] from rfl) (Reps.one (show Kd.M (Kd.int .u32) _ _ _ 2310304235 [.int .u32 2310304235] from rfl) (Reps.one (show Kd.M (Kd.int .u32) _ _ _ 3354661807 [.int .u32 3354661807] from rfl) (Reps.one (show Kd.M (Kd.int .u32) _ _ _ 2841138446 [.int .u32 2841138446] from rfl) (Reps.one (show Kd.M (Kd.int .u32) _ _ _ 2129838785 [.int .u32 2129838785] from rfl) (Reps.one (show Kd.M (Kd.int .u32) _ _ _ 419123029 [.int .u32 419123029] from rfl) (Reps.none _ _)))))))))))))))))))))))))); intro v216 w21 ho22 hb hg_ hnew_; clear hg_ hnew_; (first | rw [← Ny215.out] at ho22 | (simp only [Int.reduceToNat] at ho22; rw [← Ny215.out] at ho22)); have n0_ := Aside0.mk (Kd.R_elder' (by (with_reducible repeat (first | apply Kd.R_alloc | apply Kd.R_drewN | apply Kd.R_drew)); exact HO211.out) (Kd.R_base ho22) hb); have n1_ := Aside0.mk (Kd.R_elder' (by (with_reducible repeat (first | apply Kd.R_alloc | apply Kd.R_drewN | apply Kd.R_drew)); exact HO214.out) (Kd.R_base ho22) hb); have n2_ := Aside0.mk (Kd.R_lower (Kd.R_new' (Kd.R_new' ho22 (Kd.R_lt (by (with_reducible repeat (first | apply Kd.R_alloc | apply Kd.R_drewN | apply Kd.R_drew)); exact HO211.out))) (Kd.R_lt (by (with_reducible repeat (first | apply Kd.R_alloc | apply Kd.R_drewN | apply Kd.R_drew)); exact HO214.out))) (below_size (by repeat (first | (with_reducible first | exact HB.out | apply below_alloc | apply pw_below_drewN | apply below_drew1 | refine below_set ?_ GE199.out) | exact HB.out)))); have n3_ := Aside0.mk (blk_below (g := gb199) (o := .cells #[.slice none 0 0, .slice none 0 0] 24 (0, 0)) (by (with_reducible repeat (first | refine blk_drewN ?_ _ | refine blk_drew ?_ | refine blk_alloc ?_ _)); exact BK199.out) hb); have n4_ := Aside0.mk (below_step (by repeat (first | (with_reducible first | exact HB.out | apply below_alloc | apply pw_below_drewN | apply below_drew1 | refine below_set ?_ GE199.out) | exact HB.out)) hb); clear HO211; clear HO214; clear BK199; clear HB; have HO211 := n0_; have HO214 := n1_; have HO217 := n2_; have BK199 := n3_; have HB := n4_; clear n0_ n1_ n2_ n3_ n4_; clear hb ho22; have hcz23_0 : w21.cell? ⟨gb199, 0, none⟩ = some (.slice none 0 0) := (blk_cell BK199.out 0).trans rfl; have hcz23_1 : w21.cell? ⟨gb199, 1, none⟩ = some (.slice none 0 0) := (blk_cell BK199.out 1).trans rfl; have hfz23_0 := blk_frozen BK199.out 0; have hfz23_1 := blk_frozen BK199.out 1))
      refine bodyPost_ret (results_ct rfl _ _ gb199 24 #[.slice Ao20 y209.length co20, .slice Ao19 y212.length co19] (0, 0) _ rfl (by (with_reducible repeat (first | refine blk_drewN ?_ _ | refine blk_drew ?_ | refine blk_alloc ?_ _)); refine blk_put (cs := #[.slice Ao20 y209.length co20, .slice none 0 0]) ?_ 1 _ rfl; (with_reducible repeat (first | refine blk_drewN ?_ _ | refine blk_drew ?_ | refine blk_alloc ?_ _)); refine blk_put (cs := #[.slice none 0 0, .slice none 0 0]) ?_ 0 _ rfl; (with_reducible repeat (first | refine blk_drewN ?_ _ | refine blk_drew ?_ | refine blk_alloc ?_ _)); exact BK199.out) Tryd.underlying24 rfl (by kernel_rfl)) rfl ?_
      exact ⟨_, _, _, by first | rfl | (simp [errW_none, errW_some] <;> rfl) | (simp [*, errW_none, errW_some] <;> rfl), by (with_reducible repeat (first | apply Kd.R_alloc | apply Kd.R_drewN | apply Kd.R_drew)); exact Kd.R_mono (Kd.R_far (p := ⟨gb199, 1, none⟩) (Kd.R_far (p := ⟨gb199, 0, none⟩) (Kd.R_types HO211.out BK199.out (by decide)) (fun _ hk => hk.2) (.slice Ao20 y209.length co20)) (fun _ hk => hk.2) (.slice Ao19 y212.length co19)) (fun _ hk => ⟨hk.1.1.2, hk.1.2⟩), by (with_reducible repeat (first | apply Kd.R_alloc | apply Kd.R_drewN | apply Kd.R_drew)); exact Kd.R_mono (Kd.R_far (p := ⟨gb199, 1, none⟩) (Kd.R_far (p := ⟨gb199, 0, none⟩) (Kd.R_types HO214.out BK199.out (by decide)) (fun _ hk => hk.2) (.slice Ao20 y209.length co20)) (fun _ hk => hk.2) (.slice Ao19 y212.length co19)) (fun _ hk => ⟨hk.1.1.2, hk.1.2⟩), by (with_reducible repeat (first | apply Kd.R_alloc | apply Kd.R_drewN | apply Kd.R_drew)); exact Kd.R_mono (Kd.R_far (p := ⟨gb199, 1, none⟩) (Kd.R_far (p := ⟨gb199, 0, none⟩) (Kd.R_types HO217.out BK199.out (by decide)) (fun _ hk => hk.2) (.slice Ao20 y209.length co20)) (fun _ hk => hk.2) (.slice Ao19 y212.length co19)) (fun _ hk => ⟨hk.1.1.2, hk.1.2⟩), by repeat (first | (with_reducible first | exact HB.out | apply below_alloc | apply pw_below_drewN | apply below_drew1 | refine below_set ?_ GE199.out) | exact HB.out)⟩
    · rw [if_neg c13] at H
      have c13b0 : (a0 == 1) = false := beq_eq_false_iff_ne.mpr c13
      have c13b1 : (a0 != 1) = true := bne_iff_ne.mpr c13
      obtain ⟨y218, hy218⟩ : ∃ y_ : List Int, y_ = (([2647757785, 1389125602, 1571717152, 2974836829, 3776471463, 3789918380, 265465329, 2705477333, 2528306116, 1305786319, 3012271374, 1555166574, 3737811301, 2107156747, 423797723, 3496193931, 2229497578, 3545628057, 795677410, 3294071916, 3692226254, 2201277676, 1168892286, 3890423924, 3768719188, 1348662635, 838196833, 466793529, 1006143140, 3002503770, 4121073702, 3778180073] : List Int)) := ⟨_, rfl⟩
      replace H : (some (y218, (([65537] : List Int)), (([221114889, 4052409353, 3618135462, 3638896212, 41876785, 2981551223, 2886658486, 1775630866, 3447871993, 1687748997, 3209162719, 3268866316, 2051154063, 2544485275, 3760155216, 3752499951, 2496820468, 83771141, 3160279440, 1312331270, 3585048767, 3787517679, 1319449402, 1117739304, 4056262221, 2567164873, 3762953771, 2291027615, 2230826018, 4177935750, 4171126346, 831105070] : List Int)))) = some (r1, r2, r3) := by first | (rw [hy218]; with_reducible exact H) | (have H2_ := (Option.bind_some _ _).symm.trans H; rw [hy218]; with_reducible exact H2_) | (have H2_ := (Option.bind_some _ _).symm.trans H; with_reducible exact H2_) | with_reducible exact H | (rw [hy218]; exact H) | exact H
      have Ny218 := Aside0.mk hy218
      clear hy218
      obtain ⟨y221, hy221⟩ : ∃ y_ : List Int, y_ = (([65537] : List Int)) := ⟨_, rfl⟩
      replace H : (some (y218, y221, (([221114889, 4052409353, 3618135462, 3638896212, 41876785, 2981551223, 2886658486, 1775630866, 3447871993, 1687748997, 3209162719, 3268866316, 2051154063, 2544485275, 3760155216, 3752499951, 2496820468, 83771141, 3160279440, 1312331270, 3585048767, 3787517679, 1319449402, 1117739304, 4056262221, 2567164873, 3762953771, 2291027615, 2230826018, 4177935750, 4171126346, 831105070] : List Int)))) = some (r1, r2, r3) := by first | (rw [hy221]; with_reducible exact H) | (have H2_ := (Option.bind_some _ _).symm.trans H; rw [hy221]; with_reducible exact H2_) | (have H2_ := (Option.bind_some _ _).symm.trans H; with_reducible exact H2_) | with_reducible exact H | (rw [hy221]; exact H) | exact H
      have Ny221 := Aside0.mk hy221
      clear hy221
      obtain ⟨y224, hy224⟩ : ∃ y_ : List Int, y_ = (([221114889, 4052409353, 3618135462, 3638896212, 41876785, 2981551223, 2886658486, 1775630866, 3447871993, 1687748997, 3209162719, 3268866316, 2051154063, 2544485275, 3760155216, 3752499951, 2496820468, 83771141, 3160279440, 1312331270, 3585048767, 3787517679, 1319449402, 1117739304, 4056262221, 2567164873, 3762953771, 2291027615, 2230826018, 4177935750, 4171126346, 831105070] : List Int)) := ⟨_, rfl⟩
      replace H : (some (y218, y221, y224)) = some (r1, r2, r3) := by first | (rw [hy224]; with_reducible exact H) | (have H2_ := (Option.bind_some _ _).symm.trans H; rw [hy224]; with_reducible exact H2_) | (have H2_ := (Option.bind_some _ _).symm.trans H; with_reducible exact H2_) | with_reducible exact H | (rw [hy224]; exact H) | exact H
      have Ny224 := Aside0.mk hy224
      clear hy224
      simp only [Option.some.injEq, Prod.mk.injEq] at H
      obtain ⟨rfl, rfl, rfl⟩ := H
      go_enter Tryd.func24, Tryd.ntmps24
      go_wp2_with (first | ((with_reducible refine gate_dst (N := 2) rfl ?_); refine box_event ?hg (N := 2) ?hd (cs := #[.slice none 0 0, .slice none 0 0]) (t := 24) ?hr ?_; (case hd => rfl); (case hg => rfl); (case hr => first | (go_simp; done) | (go_simp; rfl)); intro gb199 hg w24 hbox hb; have n0_ := Aside0.mk (below_step (by repeat (first | (with_reducible first | exact HB.out | apply below_alloc | apply pw_below_drewN | apply below_drew1) | exact HB.out)) hb); have n1_ := Aside0.mk (hbox); have n2_ := Aside0.mk ((by rw [hg]; exact (below_size (by repeat (first | (with_reducible first | exact HB.out | apply below_alloc | apply pw_below_drewN | apply below_drew1) | exact HB.out))) : w.heap.size ≤ gb199)); have n3_ := Aside0.mk ((by rw [hg]; exact (below_size (by repeat (first | (with_reducible first | exact HB.out | apply below_alloc | apply pw_below_drewN | apply below_drew1) | exact HB.out))) : w.heap.size ≤ gb199)); clear HB; have HB := n0_; have BK199 := n1_; have GW199 := n2_; have GE199 := n3_; clear n0_ n1_ n2_ n3_; clear hb hbox hg) | ((with_reducible refine gate_dst (N := 17) rfl ?_); refine Kd.R_lit (Kd.int .u32) _ 46 ?hg (N := 17) ?hd (xs := ([2647757785, 1389125602, 1571717152, 2974836829, 3776471463, 3789918380, 265465329, 2705477333, 2528306116, 1305786319, 3012271374, 1555166574, 3737811301, 2107156747, 423797723, 3496193931, 2229497578, 3545628057, 795677410, 3294071916, 3692226254, 2201277676, 1168892286, 3890423924, 3768719188, 1348662635, 838196833, 466793529, 1006143140, 3002503770, 4121073702, 3778180073] : List Int)) (inner := [.int .u32 2647757785, .int .u32 1389125602, .int .u32 1571717152, .int .u32 2974836829, .int .u32 3776471463, .int .u32 3789918380, .int .u32 265465329, .int .u32 2705477333, .int .u32 2528306116, .int .u32 1305786319, .int .u32 3012271374, .int .u32 1555166574, .int .u32 3737811301, .int .u32 2107156747, .int .u32 423797723, .int .u32 3496193931, .int .u32 2229497578, .int .u32 3545628057, .int .u32 795677410, .int .u32 3294071916, .int .u32 3692226254, .int .u32 2201277676, .int .u32 1168892286, .int .u32 3890423924, .int .u32 3768719188, .int .u32 1348662635, .int .u32 838196833, .int .u32 466793529, .int .u32 1006143140, .int .u32 3002503770, .int .u32 4121073702, .int .u32 3778180073]) (ok := fun _ => True) (okp := fun _ => True) ?hr ?hp (fun _ hk => hk) trivial (Below.refl _ _) (Nat.le_refl _) (by simp) ?_; (case hd => rfl); (case hg => rfl); (case hr => first | (go_simp; done) | (go_simp; rfl)); (case hp => exact (Reps.one (show Kd.M (Kd.int .u32) _ _ _ 2647757785 [.int .u32 2647757785] from rfl) (Reps.one (show Kd.M (Kd.int .u32) _ _ _ 1389125602 [.int .u32 1389125602] from rfl) (Reps.one (show Kd.M (Kd.int .u32) _ _ _ 1571717152 [.int .u32 1571717152] from rfl) (Reps.one (show Kd.M (Kd.int .u32) _ _ _ 2974836829 [.int .u32 2974836829] from rfl) (Reps.one (show Kd.M (Kd.int .u32) _ _ _ 3776471463 [.int .u32 3776471463] from rfl) (Reps.one (show Kd.M (Kd.int .u32) _ _ _ 3789918380 [.int .u32 3789918380] from rfl) (Reps.one (show Kd.M (Kd.int .u32) _ _ _ 265465329 [.int .u32 265465329] from rfl) (Reps.one (show Kd.M (Kd.int .u32) _ _ _ 2705477333 [.int .u32 2705477333] from rfl) (Reps.one (show Kd.M (Kd.int .u32) _ _ _ 2528306116 [.int .u32 2528306116] from rfl) (Reps.one (show Kd.M (Kd.int .u32) _ _ _ 1305786319 [.int .u32 1305786319] from rfl) (Reps.one (show Kd.M (Kd.int .u32) _ _ _ 3012271374 [.int .u32 3012271374] from rfl) (Reps.one (show Kd.M (Kd.int .u32) _ _ _ 1555166574 [.int .u32 1555166574] from rfl) (Reps.one (show Kd.M (Kd.int .u32) _ _ _ 3737811301 [.int .u32 3737811301] from rfl) (Reps.one (show Kd.M (Kd.int .u32) _ _ _ 2107156747 [.int .u32 2107156747] from rfl) (Reps.one (show Kd.M (Kd.int .u32) _ _ _ 423797723 [.int .u32 423797723] from rfl) (Reps.one (show Kd.M (Kd.int .u32) _ _ _ 3496193931 [.int .u32 3496193931] from rfl) (Reps.one (show Kd.M (Kd.int .u32) _ _ _ 2229497578 [.int .u32 2229497578] from rfl) (Reps.one (show Kd.M (Kd.int .u32) _ _ _ 3545628057 [.int .u32 3545628057] from rfl) (Reps.one (show Kd.M (Kd.int .u32) _ _ _ 795677410 [.int .u32 795677410] from rfl) (Reps.one (show Kd.M (Kd.int .u32) _ _ _ 3294071916 [.int .u32 3294071916] from rfl) (Reps.one (show Kd.M (Kd.int .u32) _ _ _ 3692226254 [.int .u32 3692226254] from rfl) (Reps.one (show Kd.M (Kd.int .u32) _ _ _ 2201277676 [.int .u32 2201277676] from rfl) (Reps.one (show Kd.M (Kd.int .u32) _ _ _ 1168892286 [.int .u32 1168892286] from rfl) (Reps.one (show Kd.M (Kd.int .u32) _ _ _ 3890423924 [.int .u32 3890423924] from rfl) (Reps.one (show Kd.M (Kd.int .u32) _ _ _ 3768719188 [.int .u32 3768719188] from rfl) (Reps.one (show Kd.M (Kd.int .u32) _ _ _ 1348662635 [.int .u32 1348662635] from rfl) (Reps.one (show Kd.M (Kd.int .u32) _ _ _ 838196833 [.int .u32 838196833] from rfl) (Reps.one (show Kd.M (Kd.int .u32) _ _ _ 466793529 [.int .u32 466793529] from rfl) (Reps.one (show Kd.M (Kd.int .u32) _ _ _ 1006143140 [.int .u32 1006143140] from rfl) (Reps.one (show Kd.M (Kd.int .u32) _ _ _ 3002503770 [.int .u32 3002503770] from rfl) (Reps.one (show Kd.M (Kd.int .u32) _ _ _ 4121073702 [.int .u32 4121073702] from rfl) (Reps.one (show Kd.M (Kd.int .u32) _ _ _ 3778180073 [.int .u32 3778180073] from rfl) (Reps.none _ _)))))))))))))))))))))))))))))))))); intro v219 w25 ho26 hb hg_ hnew_; clear hg_ hnew_; (first | rw [← Ny218.out] at ho26 | (simp only [Int.reduceToNat] at ho26; rw [← Ny218.out] at ho26)); have n0_ := Aside0.mk (Kd.R_lower ho26 (below_size (by repeat (first | (with_reducible first | exact HB.out | apply below_alloc | apply pw_below_drewN | apply below_drew1 | refine below_set ?_ GE199.out) | exact HB.out)))); have n1_ := Aside0.mk (blk_below (g := gb199) (o := .cells #[.slice none 0 0, .slice none 0 0] 24 (0, 0)) (by (with_reducible repeat (first | refine blk_drewN ?_ _ | refine blk_drew ?_ | refine blk_alloc ?_ _)); exact BK199.out) hb); have n2_ := Aside0.mk (below_step (by repeat (first | (with_reducible first | exact HB.out | apply below_alloc | apply pw_below_drewN | apply below_drew1 | refine below_set ?_ GE199.out) | exact HB.out)) hb); clear BK199; clear HB; have HO220 := n0_; have BK199 := n1_; have HB := n2_; clear n0_ n1_ n2_; clear hb ho26) | ((with_reducible refine gate_dst (N := 18) rfl ?_); refine Kd.R_lit (Kd.int .u32) _ 46 ?hg (N := 18) ?hd (xs := ([65537] : List Int)) (inner := [.int .u32 65537]) (ok := fun _ => True) (okp := fun _ => True) ?hr ?hp (fun _ hk => hk) trivial (Below.refl _ _) (Nat.le_refl _) (by simp) ?_; (case hd => rfl); (case hg => rfl); (case hr => first | (go_simp; done) | (go_simp; rfl)); (case hp => exact (Reps.one (show Kd.M (Kd.int .u32) _ _ _ 65537 [.int .u32 65537] from rfl) (Reps.none _ _))); intro v222 w27 ho28 hb hg_ hnew_; clear hg_ hnew_; (first | rw [← Ny221.out] at ho28 | (simp only [Int.reduceToNat] at ho28; rw [← Ny221.out] at ho28)); have n0_ := Aside0.mk (Kd.R_elder' (by (with_reducible repeat (first | apply Kd.R_alloc | apply Kd.R_drewN | apply Kd.R_drew)); exact HO220.out) (Kd.R_base ho28) hb); have n1_ := Aside0.mk (Kd.R_lower (Kd.R_new' ho28 (Kd.R_lt (by (with_reducible repeat (first | apply Kd.R_alloc | apply Kd.R_drewN | apply Kd.R_drew)); exact HO220.out))) (below_size (by repeat (first | (with_reducible first | exact HB.out | apply below_alloc | apply pw_below_drewN | apply below_drew1 | refine below_set ?_ GE199.out) | exact HB.out)))); have n2_ := Aside0.mk (blk_below (g := gb199) (o := .cells #[.slice none 0 0, .slice none 0 0] 24 (0, 0)) (by (with_reducible repeat (first | refine blk_drewN ?_ _ | refine blk_drew ?_ | refine blk_alloc ?_ _)); exact BK199.out) hb); have n3_ := Aside0.mk (below_step (by repeat (first | (with_reducible first | exact HB.out | apply below_alloc | apply pw_below_drewN | apply below_drew1 | refine below_set ?_ GE199.out) | exact HB.out)) hb); clear HO220; clear BK199; clear HB; have HO220 := n0_; have HO223 := n1_; have BK199 := n2_; have HB := n3_; clear n0_ n1_ n2_ n3_; clear hb ho28; obtain ⟨Ao29, co29, eo29⟩ := Kd.R_slice HO223.out; subst eo29; obtain ⟨Ao30, co30, eo30⟩ := Kd.R_slice HO220.out; subst eo30) | ((with_reducible refine gate_dst (N := 20) rfl ?_); refine Kd.R_lit (Kd.int .u32) _ 46 ?hg (N := 20) ?hd (xs := ([221114889, 4052409353, 3618135462, 3638896212, 41876785, 2981551223, 2886658486, 1775630866, 3447871993, 1687748997, 3209162719, 3268866316, 2051154063, 2544485275, 3760155216, 3752499951, 2496820468, 83771141, 3160279440, 1312331270, 3585048767, 3787517679, 1319449402, 1117739304, 4056262221, 2567164873, 3762953771, 2291027615, 2230826018, 4177935750, 4171126346, 831105070] : List Int)) (inner := [.int .u32 221114889, .int .u32 4052409353, .int .u32 3618135462, .int .u32 3638896212, .int .u32 41876785, .int .u32 2981551223, .int .u32 2886658486, .int .u32 1775630866, .int .u32 3447871993, .int .u32 1687748997, .int .u32 3209162719, .int .u32 3268866316, .int .u32 2051154063, .int .u32 2544485275, .int .u32 3760155216, .int .u32 3752499951, .int .u32 2496820468, .int .u32 83771141, .int .u32 3160279440, .int .u32 1312331270, .int .u32 3585048767, .int .u32 3787517679, .int .u32 1319449402, .int .u32 1117739304, .int .u32 4056262221, .int .u32 2567164873, .int .u32 3762953771, .int .u32 2291027615, .int .u32 2230826018, .int .u32 4177935750, .int .u32 4171126346, .int .u32 831105070]) (ok := fun _ => True) (okp := fun _ => True) ?hr ?hp (fun _ hk => hk) trivial (Below.refl _ _) (Nat.le_refl _) (by simp) ?_; (case hd => rfl); (case hg => rfl); (case hr => first | (go_simp; done) | (go_simp; rfl)); (case hp => exact (Reps.one (show Kd.M (Kd.int .u32) _ _ _ 221114889 [.int .u32 221114889] from rfl) (Reps.one (show Kd.M (Kd.int .u32) _ _ _ 4052409353 [.int .u32 4052409353] from rfl) (Reps.one (show Kd.M (Kd.int .u32) _ _ _ 3618135462 [.int .u32 3618135462] from rfl) (Reps.one (show Kd.M (Kd.int .u32) _ _ _ 3638896212 [.int .u32 3638896212] from rfl) (Reps.one (show Kd.M (Kd.int .u32) _ _ _ 41876785 [.int .u32 41876785] from rfl) (Reps.one (show Kd.M (Kd.int .u32) _ _ _ 2981551223 [.int .u32 2981551223] from rfl) (Reps.one (show Kd.M (Kd.int .u32) _ _ _ 2886658486 [.int .u32 2886658486] from rfl) (Reps.one (show Kd.M (Kd.int .u32) _ _ _ 1775630866 [.int .u32 1775630866] from rfl) (Reps.one (show Kd.M (Kd.int .u32) _ _ _ 3447871993 [.int .u32 3447871993] from rfl) (Reps.one (show Kd.M (Kd.int .u32) _ _ _ 1687748997 [.int .u32 1687748997] from rfl) (Reps.one (show Kd.M (Kd.int .u32) _ _ _ 3209162719 [.int .u32 3209162719] from rfl) (Reps.one (show Kd.M (Kd.int .u32) _ _ _ 3268866316 [.int .u32 3268866316] from rfl) (Reps.one (show Kd.M (Kd.int .u32) _ _ _ 2051154063 [.int .u32 2051154063] from rfl) (Reps.one (show Kd.M (Kd.int .u32) _ _ _ 2544485275 [.int .u32 2544485275] from rfl) (Reps.one (show Kd.M (Kd.int .u32) _ _ _ 3760155216 [.int .u32 3760155216] from rfl) (Reps.one (show Kd.M (Kd.int .u32) _ _ _ 3752499951 [.int .u32 3752499951] from rfl) (Reps.one (show Kd.M (Kd.int .u32) _ _ _ 2496820468 [.int .u32 2496820468] from rfl) (Reps.one (show Kd.M (Kd.int .u32) _ _ _ 83771141 [.int .u32 83771141] from rfl) (Reps.one (show Kd.M (Kd.int .u32) _ _ _ 3160279440 [.int .u32 3160279440] from rfl) (Reps.one (show Kd.M (Kd.int .u32) _ _ _ 1312331270 [.int .u32 1312331270] from rfl) (Reps.one (show Kd.M (Kd.int .u32) _ _ _ 3585048767 [.int .u32 3585048767] from rfl) (Reps.one (show Kd.M (Kd.int .u32) _ _ _ 3787517679 [.int .u32 3787517679] from rfl) (Reps.one (show Kd.M (Kd.int .u32) _ _ _ 1319449402 [.int .u32 1319449402] from rfl) (Reps.one (show Kd.M (Kd.int .u32) _ _ _ 1117739304 [.int .u32 1117739304] from rfl) (Reps.one (show Kd.M (Kd.int .u32) _ _ _ 4056262221 [.int .u32 4056262221] from rfl) (Reps.one (show Kd.M (Kd.int .u32) _ _ _ 2567164873 [.int .u32 2567164873] from rfl) (Reps.one (show Kd.M (Kd.int .u32) _ _ _ 3762953771 [.int .u32 3762953771] from rfl) (Reps.one (show Kd.M (Kd.int .u32) _ _ _ 2291027615 [.int .u32 2291027615] from rfl) (Reps.one (show Kd.M (Kd.int .u32) _ _ _ 2230826018 [.int .u32 2230826018] from rfl) (Reps.one (show Kd.M (Kd.int .u32) _ _ _ 4177935750 [.int .u32 4177935750] from rfl) (Reps.one (show Kd.M (Kd.int .u32) _ _ _ 4171126346 [.int .u32 4171126346] from rfl) (Reps.one (show Kd.M (Kd.int .u32) _ _ _ 831105070 [.int .u32 831105070] from rfl) (Reps.none _ _)))))))))))))))))))))))))))))))))); intro v225 w31 ho32 hb hg_ hnew_; clear hg_ hnew_; (first | rw [← Ny224.out] at ho32 | (simp only [Int.reduceToNat] at ho32; rw [← Ny224.out] at ho32)); have n0_ := Aside0.mk (Kd.R_elder' (by (with_reducible repeat (first | apply Kd.R_alloc | apply Kd.R_drewN | apply Kd.R_drew)); exact HO220.out) (Kd.R_base ho32) hb); have n1_ := Aside0.mk (Kd.R_elder' (by (with_reducible repeat (first | apply Kd.R_alloc | apply Kd.R_drewN | apply Kd.R_drew)); exact HO223.out) (Kd.R_base ho32) hb); have n2_ := Aside0.mk (Kd.R_lower (Kd.R_new' (Kd.R_new' ho32 (Kd.R_lt (by (with_reducible repeat (first | apply Kd.R_alloc | apply Kd.R_drewN | apply Kd.R_drew)); exact HO220.out))) (Kd.R_lt (by (with_reducible repeat (first | apply Kd.R_alloc | apply Kd.R_drewN | apply Kd.R_drew)); exact HO223.out))) (below_size (by repeat (first | (with_reducible first | exact HB.out | apply below_alloc | apply pw_below_drewN | apply below_drew1 | refine below_set ?_ GE199.out) | exact HB.out)))); have n3_ := Aside0.mk (blk_below (g := gb199) (o := .cells #[.slice none 0 0, .slice none 0 0] 24 (0, 0)) (by (with_reducible repeat (first | refine blk_drewN ?_ _ | refine blk_drew ?_ | refine blk_alloc ?_ _)); exact BK199.out) hb); have n4_ := Aside0.mk (below_step (by repeat (first | (with_reducible first | exact HB.out | apply below_alloc | apply pw_below_drewN | apply below_drew1 | refine below_set ?_ GE199.out) | exact HB.out)) hb); clear HO220; clear HO223; clear BK199; clear HB; have HO220 := n0_; have HO223 := n1_; have HO226 := n2_; have BK199 := n3_; have HB := n4_; clear n0_ n1_ n2_ n3_ n4_; clear hb ho32; have hcz33_0 : w31.cell? ⟨gb199, 0, none⟩ = some (.slice none 0 0) := (blk_cell BK199.out 0).trans rfl; have hcz33_1 : w31.cell? ⟨gb199, 1, none⟩ = some (.slice none 0 0) := (blk_cell BK199.out 1).trans rfl; have hfz33_0 := blk_frozen BK199.out 0; have hfz33_1 := blk_frozen BK199.out 1))
      refine bodyPost_ret (results_ct rfl _ _ gb199 24 #[.slice Ao30 y218.length co30, .slice Ao29 y221.length co29] (0, 0) _ rfl (by (with_reducible repeat (first | refine blk_drewN ?_ _ | refine blk_drew ?_ | refine blk_alloc ?_ _)); refine blk_put (cs := #[.slice Ao30 y218.length co30, .slice none 0 0]) ?_ 1 _ rfl; (with_reducible repeat (first | refine blk_drewN ?_ _ | refine blk_drew ?_ | refine blk_alloc ?_ _)); refine blk_put (cs := #[.slice none 0 0, .slice none 0 0]) ?_ 0 _ rfl; (with_reducible repeat (first | refine blk_drewN ?_ _ | refine blk_drew ?_ | refine blk_alloc ?_ _)); exact BK199.out) Tryd.underlying24 rfl (by kernel_rfl)) rfl ?_
      exact ⟨_, _, _, by first | rfl | (simp [errW_none, errW_some] <;> rfl) | (simp [*, errW_none, errW_some] <;> rfl), by (with_reducible repeat (first | apply Kd.R_alloc | apply Kd.R_drewN | apply Kd.R_drew)); exact Kd.R_mono (Kd.R_far (p := ⟨gb199, 1, none⟩) (Kd.R_far (p := ⟨gb199, 0, none⟩) (Kd.R_types HO220.out BK199.out (by decide)) (fun _ hk => hk.2) (.slice Ao30 y218.length co30)) (fun _ hk => hk.2) (.slice Ao29 y221.length co29)) (fun _ hk => ⟨hk.1.1.2, hk.1.2⟩), by (with_reducible repeat (first | apply Kd.R_alloc | apply Kd.R_drewN | apply Kd.R_drew)); exact Kd.R_mono (Kd.R_far (p := ⟨gb199, 1, none⟩) (Kd.R_far (p := ⟨gb199, 0, none⟩) (Kd.R_types HO223.out BK199.out (by decide)) (fun _ hk => hk.2) (.slice Ao30 y218.length co30)) (fun _ hk => hk.2) (.slice Ao29 y221.length co29)) (fun _ hk => ⟨hk.1.1.2, hk.1.2⟩), by (with_reducible repeat (first | apply Kd.R_alloc | apply Kd.R_drewN | apply Kd.R_drew)); exact Kd.R_mono (Kd.R_far (p := ⟨gb199, 1, none⟩) (Kd.R_far (p := ⟨gb199, 0, none⟩) (Kd.R_types HO226.out BK199.out (by decide)) (fun _ hk => hk.2) (.slice Ao30 y218.length co30)) (fun _ hk => hk.2) (.slice Ao29 y221.length co29)) (fun _ hk => ⟨hk.1.1.2, hk.1.2⟩), by repeat (first | (with_reducible first | exact HB.out | apply below_alloc | apply pw_below_drewN | apply below_drew1 | refine below_set ?_ GE199.out) | exact HB.out)⟩

end Go.Proofs.YtdncmmipopdhbaaDoor.P
end

section
-- What the print of the kit writes for this function (through a program of mine that hands it contracts of functions that it does not take).
namespace Go.Proofs.YtdncmmipopdhbaaDoor.P
open Go.RowKit Go.Proofs.YtdncmmipopdhbaaDoorW.PrintWords Go.Proofs.YtdncmmipopdhbaaDoorW.PrintLast Go.Proofs.YtdncmmipopdhbaaDoorW.PrintMore
attribute [local go_sem] max2_int min2_int max_two min_two max_three min_three max_four min_four   -- for this text's walks alone
set_option linter.unusedVariables false
set_option linter.unusedSimpArgs false

/-! ### chirographlaw08_num: function 8 -/
def chirographlaw08_num.f (a0 : Int) : Option (Int) := some a0
set_option maxHeartbeats 8000000 in
set_option maxRecDepth 100000 in
theorem chirographlaw08_num.calls (a0 : Int) (r : Int) (w : World) (h : chirographlaw08_num.f a0 = some r) :
    Calls Tryd.prog 8 #[.int .i64 a0] w fun e w' => e = .returned (.int .i64 r) ∧ Drawn0 w w' := by
  have H : (some a0) = some r := h
  clear h
  obtain rfl := Option.some.inj H
  go_enter Tryd.func8, Tryd.ntmps8
  go_wp2
  go_ret
  exact ⟨by first | rfl | (simp; done) | (simp [*]; done), by repeat (first | exact Drawn0.refl _ | apply Drawn0.step)⟩

end Go.Proofs.YtdncmmipopdhbaaDoor.P
end

section
/-
  Walk: chirographlaw08.live.
-/
set_option linter.unusedVariables false
set_option linter.unusedSimpArgs false
namespace Go.Proofs.YtdncmmipopdhbaaDoor.P
open Go.RowKit Go.Proofs.YtdncmmipopdhbaaDoorW.PrintWords Go.Proofs.YtdncmmipopdhbaaDoorW.PrintLast Go.Proofs.YtdncmmipopdhbaaDoorW.PrintMore

def knownN : List Int := [1295419795, 3173228247, 2137395180, 1548933856, 3106420408, 3948765562, 1049120400, 779370009, 4082781268, 1057109357, 1184194943, 1393408190, 1811714008, 4142931574, 3115507167, 2773311948]
theorem live_mask : rsa_Mask.f 1 [102, 111, 111] 3 = some ([26, 201, 7], 0) := by
  have h : maskOf 1 [102, 111, 111] 3 = [26, 201, 7] := by decide +kernel
  unfold rsa_Mask.f
  rw [if_neg (by decide), if_pos (by decide)]
  rw [show (3 : Int).toNat = 3 from rfl, h]
theorem live_pad : rsa_Pad.f 1 (List.replicate 20 0) 46 = some ([0, 1, 255, 255, 255, 255, 255, 255, 255, 255, 0, 48, 33, 48, 9, 6, 5, 43, 14, 3, 2, 26, 5, 0, 4, 20] ++ List.replicate 20 0, 0) := by decide +kernel
theorem live_check : rsa_Check.f 2 [15] [3] = some 80 := by decide +kernel
theorem live_size : rsa_Size.f 2 knownN [3] = some 64 := by decide +kernel
theorem live_known : ∃ d, chirographref08_Known.f 0 = some (knownN, [3], d) := ⟨_, rfl⟩
set_option maxHeartbeats 8000000 in
set_option maxRecDepth 100000 in
theorem chirographlaw08_live.calls (r : Bool) (w : World) (hKA : Sha.KAt w) (h : chirographlaw08_live.f = some r) :
    Calls Tryd.prog 7 #[] w fun e w' => e = .returned (.bool r) ∧ Below w.heap.size w w' := by
  obtain rfl := Option.some.inj h
  have hcv := Lib.run_convert_bytes_const (P := Tryd.prog) w 31 5 #[.int .u8 102, .int .u8 111, .int .u8 111] 3 3 Tryd.underlying31 Tryd.underlying5
  obtain ⟨w1, hw1⟩ : ∃ w1, w1 = w.alloc (.cells #[.int .u8 102, .int .u8 111, .int .u8 111] 5 (3, 4)) := ⟨_, rfl⟩
  have hb1 : Below w.heap.size w w1 := by rw [hw1]; exact (Below.refl _ _).alloc (Nat.le_refl _) _
  have hlt1 : w.heap.size < w1.heap.size := by rw [hw1]; simp
  have hC : K.Rd w1 .u8 (some ⟨w.heap.size, 0, none⟩) [102, 111, 111] := by
    refine ⟨by simp, fun _ => ⟨_, rfl, fun i hi => ?_⟩⟩
    rw [K.add_plain, hw1, World.cell?_alloc_mark]
    match i, hi with
    | 0, _ => rfl
    | 1, _ => rfl
    | 2, _ => rfl
  simp only [List.size_toArray, List.length_cons, List.length_nil, Nat.zero_add, Nat.reduceAdd] at hcv
  rw [← hw1] at hcv
  clear hw1
  go_enter Tryd.func7, Tryd.ntmps7
  go_wp2_with fail
  refine (rsa_Mask.calls 1 (some ⟨w.heap.size, 0, none⟩) 3 [102, 111, 111] 3 _ _ w1 (rd_C hC rfl) (by simp) (fun a ha => by cases ha; exact hlt1) (hKA.below hb1) live_mask).mono ?_
  rintro e w2 ⟨A2, c2, rfl, hle2, h632, hr2, hat2, hb2⟩
  clear hcv
  replace hb2 := hb1.trans (hb2.mono hb1.size)
  clear hC hb1
  have hmk := K.make_nums (P := Tryd.prog) 31 5 .u8 1 Tryd.underlying31 info_u8 .i64 .i64 20 20 (by decide) (by decide) (by decide) (by decide)
  simp only [show (20 : Int).toNat = 20 from rfl] at hmk
  have hz : K.Rd (w2.alloc (.cells (madeCells #[.int .u8 0] 20) 5)) .u8 (some ⟨w2.heap.size, 0, none⟩) (List.replicate 20 0) := (K.arr_made w2 .u8 5 20).rd (by decide)
  have hb3 : Below w2.heap.size w2 (w2.alloc (.cells (madeCells #[.int .u8 0] 20) 5)) := (Below.refl _ _).alloc (Nat.le_refl _) _
  go_wp2_with fail
  generalize w2.alloc (.cells (madeCells #[.int .u8 0] 20) 5) = w3 at *
  have hPC := rd_C hz (n := 20) (by simp)
  have hpad := rsa_Pad.calls 1 (some ⟨w2.heap.size, 0, none⟩) 20 (List.replicate 20 0) 46 _ _ w3 (rd_C hz rfl) (by decide) live_pad
  rw [List.length_replicate] at hpad
  refine hpad.mono ?_
  rintro e w4 ⟨v4, rfl, hR4, hb4⟩
  have hO4 := R_own hR4
  obtain ⟨A4, c4, rfl, hle4, h634, hat4, hr4⟩ := hO4.rd
  clear hpad hR4 hz hPC hmk
  have hb34 := hb3.trans (hb4.mono hb3.size)
  have hr24 : K.Rd w4 .u8 A2 [26, 201, 7] := hr2.belowB hb34 (fun a ha => (hat2 a ha).2)
  have hb5 := hb2.trans (hb34.mono hb2.size)
  clear hr2 hb3 hb4 hb34
  obtain ⟨dk, hkn⟩ := live_known
  go_wp2_with fail
  refine (chirographref08_Known.calls 0 _ _ _ w4 hkn).mono ?_
  rintro e w5 ⟨v0, v1, v2, rfl, hR0, hR1, hR2, hb6⟩
  have hN := (R_own hR0).rd
  have hE := (R_own hR1).rd
  obtain ⟨AN, cN, rfl, hleN, _, hatN, hrN⟩ := hN
  obtain ⟨AE, cE, rfl, hleE, _, hatE, hrE⟩ := hE
  obtain ⟨AD, cD, rfl, _, _, _, _⟩ := (R_own hR2).rd
  clear hR0 hR1 hR2
  have hr25 : K.Rd w5 .u8 A2 [26, 201, 7] := hr24.below hb6
  have hr45 : K.Rd w5 .u8 A4 _ := hr4.below hb6
  have hb7 := hb5.trans (hb6.mono hb5.size)
  clear hr24 hr4 hb5 hb6
  go_wp2_with fail
  have kb : Below w5.heap.size w5 (w5.alloc (.cells #[.slice AN knownN.length cN, .slice AE 1 cE] 24)) := (Below.refl _ _).alloc (Nat.le_refl _) _
  have kh : (w5.alloc (.cells #[.slice AN knownN.length cN, .slice AE 1 cE] 24)).heap[w5.heap.size]? = some (.cells #[.slice AN knownN.length cN, .slice AE 1 cE] 24 (0, 0)) := World.alloc_heap_new _ _
  have ks : (w5.alloc (.cells #[.slice AN knownN.length cN, .slice AE 1 cE] 24)).heap.size = w5.heap.size + 1 := by simp
  generalize w5.alloc (.cells #[.slice AN knownN.length cN, .slice AE 1 cE] 24) = w6 at *
  refine (chirographlaw08_num.calls 0 0 w6 rfl).mono ?_
  rintro e w7 ⟨rfl, ⟨n1, rfl⟩⟩
  go_wp2_with fail
  refine (chirographlaw08_num.calls 0 0 _ rfl).mono ?_
  rintro e w8 ⟨rfl, ⟨n2, rfl⟩⟩
  replace kb : Below w5.heap.size w5 ((w6.drewN n1).drewN n2) := K.below_drewN (K.below_drewN kb n1) n2
  replace kh : ((w6.drewN n1).drewN n2).heap[w5.heap.size]? = some (.cells #[.slice AN knownN.length cN, .slice AE 1 cE] 24 (0, 0)) := kh
  replace ks : ((w6.drewN n1).drewN n2).heap.size = w5.heap.size + 1 := ks
  generalize (w6.drewN n1).drewN n2 = w8 at *
  have hs := K.Rd.below hr25 kb
  have hp := K.Rd.below hr45 kb
  obtain ⟨a2, rfl, hc2⟩ := hs.2 (by decide)
  obtain ⟨a4, rfl, hc4⟩ := hp.2 (by decide)
  have hcs := run_convert_bytes_back (P := Tryd.prog) w8 31 9 5 a2 c2 [26, 201, 7] Tryd.underlying31 Tryd.underlying5 Tryd.underlying9 (fun j hj => by
    rw [hc2 j (by simpa using hj)]
    match j, hj with
    | 0, _ => rfl
    | 1, _ => rfl
    | 2, _ => rfl)
  simp only [List.length_cons, List.length_nil, Nat.zero_add, Nat.reduceAdd] at hcs
  have p1 : w8.cell? ⟨a4.block, a4.off + 1, none⟩ = some (.int .u8 1) := by have := hc4 1 (by decide); simpa [Addr.add] using this
  have p10 : w8.cell? ⟨a4.block, a4.off + 10, none⟩ = some (.int .u8 0) := by have := hc4 10 (by decide); simpa [Addr.add] using this
  have p11 : w8.cell? ⟨a4.block, a4.off + 11, none⟩ = some (.int .u8 48) := by have := hc4 11 (by decide); simpa [Addr.add] using this
  clear hc2 hc4 hs hp
  go_wp2_with fail
  have q1 : (w8.alloc (.cells #[.int .u32 15] 46)).heap.size = w5.heap.size + 1 + 1 := by simp [ks]
  have r1 : K.Rd ((w8.alloc (.cells #[.int .u32 15] 46)).alloc (.cells #[.int .u32 3] 46)) .u32 (some ⟨w5.heap.size + 1, 0, none⟩) [15] := by rw [← ks]; exact (K.rd_new1 w8 .u32 46 15).alloc _
  have r2 : K.Rd ((w8.alloc (.cells #[.int .u32 15] 46)).alloc (.cells #[.int .u32 3] 46)) .u32 (some ⟨w5.heap.size + 1 + 1, 0, none⟩) [3] := by rw [← q1]; exact K.rd_new1 _ .u32 46 3
  have kb9 : Below w8.heap.size w8 ((w8.alloc (.cells #[.int .u32 15] 46)).alloc (.cells #[.int .u32 3] 46)) := ((Below.refl _ _).alloc (Nat.le_refl _) _).alloc (by simp) _
  generalize (w8.alloc (.cells #[.int .u32 15] 46)).alloc (.cells #[.int .u32 3] 46) = w9 at *
  clear hcs p1 p10 p11 q1
  refine (rsa_Check.calls 2 (some ⟨w5.heap.size + 1, 0, none⟩) 1 [15] (some ⟨w5.heap.size + 1 + 1, 0, none⟩) 1 [3] 80 w9 (rd_C r1 rfl) (by decide) (rd_C r2 rfl) (by decide) live_check).mono ?_
  rintro e w10 ⟨rfl, kb10⟩
  clear r1 r2
  go_wp2_with fail
  refine (chirographlaw08_num.calls 80 80 w10 rfl).mono ?_
  rintro e w11 ⟨rfl, ⟨n3, rfl⟩⟩
  have kb11 : Below w8.heap.size w8 (w10.drewN n3) := K.below_drewN (kb9.trans (kb10.mono kb9.size)) n3
  generalize w10.drewN n3 = w11 at *
  have kh11 : w11.heap[w5.heap.size]? = some (.cells #[.slice AN knownN.length cN, .slice AE 1 cE] 24 (0, 0)) := (kb11.block _ (by omega)).trans kh
  have c0 : w11.cell? ⟨w5.heap.size, 0, none⟩ = some (.slice AN knownN.length cN) := by rw [K.blk_cell kh11]; rfl
  have c1 : w11.cell? ⟨w5.heap.size, 1, none⟩ = some (.slice AE 1 cE) := by rw [K.blk_cell kh11]; rfl
  have kb12 : Below w5.heap.size w5 w11 := kb.trans (kb11.mono kb.size)
  have hrN2 := hrN.below kb12
  have hrE2 := hrE.below kb12
  clear kb9 kb10 kb11 kh11
  go_wp2_with fail
  refine (rsa_Size.calls 2 AN cN knownN AE cE [3] 64 w11 (rd_C hrN2 rfl) hleN (rd_C hrE2 rfl) hleE live_size).mono ?_
  rintro e w12 ⟨rfl, kb13⟩
  go_wp2
  go_ret
  exact ⟨rfl, hb7.trans ((kb12.trans (kb13.mono kb12.size)).mono hb7.size)⟩
end Go.Proofs.YtdncmmipopdhbaaDoor.P
end

section
-- What the print of the kit writes for this function (through a program of mine that hands it contracts of functions that it does not take).
namespace Go.Proofs.YtdncmmipopdhbaaDoor.P
open Go.RowKit Go.Proofs.YtdncmmipopdhbaaDoorW.PrintWords Go.Proofs.YtdncmmipopdhbaaDoorW.PrintLast Go.Proofs.YtdncmmipopdhbaaDoorW.PrintMore
attribute [local go_sem] max2_int min2_int max_two min_two max_three min_three max_four min_four   -- for this text's walks alone
set_option linter.unusedVariables false
set_option linter.unusedSimpArgs false

/-! ### chirographref01_plain: function 76 -/
def chirographref01_plain.l0 : Nat → List Int → Int → Option (List Int)
  | 0, _, _ => none
  | k + 1, x0, x3 => if x3 > 0 then (if 0 ≤ (wrap64 (x3 - 1)) then (if (wrap64 (x3 - 1)) < (x0.length : Int) then (if (rd x0 (wrap64 (x3 - 1))) = 0 then (chirographref01_plain.l0 k x0 (wrap64 (x3 - 1))) else (if 0 ≤ x3 then (if x3 ≤ (x0.length : Int) then (some (x0.take (x3 : Int).toNat)) else (none)) else (none))) else (none)) else (none)) else (if 0 ≤ x3 then (if x3 ≤ (x0.length : Int) then (some (x0.take (x3 : Int).toNat)) else (none)) else (none))
def chirographref01_plain.f (k : Nat) (l0 : List Int) : Option (List Int) := chirographref01_plain.l0 k l0 (l0.length : Int)
theorem chirographref01_plain.mono_l : ∀ k, (∀ y0 y1, LeO (chirographref01_plain.l0 k y0 y1) (chirographref01_plain.l0 (k + 1) y0 y1))
  | 0 => fun _ _ r h => by simp [chirographref01_plain.l0] at h
  | k + 1 => by
    have ih0 := chirographref01_plain.mono_l k
    · intro y0 y1
      unfold chirographref01_plain.l0
      repeat' first
      | (with_reducible exact ih0 _ _)
      | (with_reducible exact LeO.refl _)
      | (with_reducible exact LeO.none _)
      | (with_reducible refine LeO.ite ?_ ?_)
      | (with_reducible refine LeO.bind ?_ (fun _ => ?_))
      | exact ih0 _ _
      | exact LeO.none _
      | refine LeO.ite ?_ ?_
      | refine LeO.bind ?_ (fun _ => ?_)
theorem chirographref01_plain.mono : ∀ a0 k, LeO (chirographref01_plain.f k a0) (chirographref01_plain.f (k + 1) a0) := by
  intro a0 k
  have ih0 := chirographref01_plain.mono_l k
  unfold chirographref01_plain.f
  repeat' first
      | (with_reducible exact ih0 _ _)
      | (with_reducible exact LeO.refl _)
      | (with_reducible exact LeO.none _)
      | (with_reducible refine LeO.ite ?_ ?_)
      | (with_reducible refine LeO.bind ?_ (fun _ => ?_))
      | exact ih0 _ _
      | exact LeO.none _
      | refine LeO.ite ?_ ?_
      | refine LeO.bind ?_ (fun _ => ?_)
set_option maxHeartbeats 8000000 in
set_option maxRecDepth 100000 in
theorem chirographref01_plain.calls (k : Nat) (P0_ : Nat → Prop) (u9000_ : Value) (l0 : List Int) (r : List Int) (w0 w : World) (hB : Below w0.heap.size w0 w) (ho0 : Kd.R (Kd.int .u64) 71 w w0.heap.size P0_ u9000_ l0) (h : chirographref01_plain.f k l0 = some r) :
    Calls Tryd.prog 76 #[u9000_] w fun e w' => ∃ v0_ : Value, e = .returned (v0_) ∧ Kd.R (Kd.int .u64) 71 w' w0.heap.size (fun k_ => (P0_ k_ ∨ w.heap.size ≤ k_)) v0_ r ∧ Below w0.heap.size w0 w' ∧ Kept w w' (fun k_ => P0_ k_) := by
  have HO0 := Aside0.mk (show Kd.R (Kd.int .u64) 71 w w0.heap.size (fun k_ => (P0_ k_ ∨ w.heap.size ≤ k_)) u9000_ l0 from Kd.R_mono ho0 (fun k_ hk => (.inl hk)))
  have HK := Aside0.mk (Kept.refl w (fun k_ => P0_ k_))
  have HW0 := Aside0.mk hB.size
  have HB := Aside0.mk hB
  clear hB
  have H : (chirographref01_plain.l0 k l0 (l0.length : Int)) = some r := h
  clear h
  have H' := Aside0.mk H
  clear H
  obtain ⟨Ao2, co2, eo2⟩ := Kd.R_slice HO0.out
  subst eo2
  go_enter Tryd.func76, Tryd.ntmps76
  go_wp2
  go_loopg [3] k (fun kq v3 w' => ∃ (x3_1 : Int), v3 = .int .i64 x3_1 ∧ Aside0 (chirographref01_plain.l0 kq l0 x3_1 = some r) ∧ Aside0 (kq ≤ k) ∧ Aside0 (Kd.R (Kd.int .u64) 71 w' w0.heap.size (fun k_ => (P0_ k_ ∨ w.heap.size ≤ k_)) (.slice Ao2 l0.length co2) l0) ∧ Aside0 (Kept w w' (fun k_ => P0_ k_)) ∧ Aside0 (Below w0.heap.size w0 w'))
  case atStart => exact ⟨((l0.length : Int)), (by first | rfl | (simp; done) | (simp [*]; done)), H', ⟨Nat.le_refl _⟩, ⟨by (with_reducible repeat (first | apply Kd.R_alloc | apply Kd.R_drewN | apply Kd.R_drew)); exact HO0.out⟩, ⟨by repeat (first | (with_reducible first | exact HK.out | apply Kept.alloc | apply Kept.drewN | apply Kept.drew) | exact HK.out)⟩, ⟨by repeat (first | (with_reducible first | exact HB.out | apply below_alloc | apply pw_below_drewN | apply below_drew1) | exact HB.out)⟩⟩
  case round =>
    clear H'
    try clear p2
    obtain ⟨x3_1, rfl, HA, HK1, HO_0, HK, HB⟩ := hrel
    cases gk with
    | zero => exact absurd HA.out (by simp [chirographref01_plain.l0])
    | succ k1 =>
      have H := HA.out
      clear HA
      simp only [chirographref01_plain.l0] at H
      by_cases c3 : x3_1 > 0
      · rw [if_pos c3] at H
        have c3b0 : decide (0 < x3_1) = true := decide_eq_true c3
        clear c3
        obtain ⟨ji4, hji4⟩ : ∃ j_ : Int, (wrap64 (x3_1 - 1)) = j_ := ⟨_, rfl⟩
        replace H : (if 0 ≤ (ji4) then (if (ji4) < (l0.length : Int) then (if (rd l0 (ji4)) = 0 then (chirographref01_plain.l0 k1 l0 ji4) else (if 0 ≤ x3_1 then (if x3_1 ≤ (l0.length : Int) then (some (l0.take (x3_1 : Int).toNat)) else (none)) else (none))) else (none)) else (none)) = some r := by first | (rw [hji4] at H; exact H) | (simp only [hji4] at H ⊢; exact H)
        have hji4w : (IntKind.i64.wrap (x3_1 - 1)) = ji4 := (i64_w _).trans hji4
        by_cases c5 : 0 ≤ (ji4)
        · rw [if_pos c5] at H
          have c5b0 : decide (0 ≤ (ji4)) = true := decide_eq_true c5
          clear c5
          by_cases c6 : (ji4) < (l0.length : Int)
          · rw [if_pos c6] at H
            have c6b0 : decide ((ji4) < (l0.length : Int)) = true := decide_eq_true c6
            clear c6
            by_cases c7 : (rd l0 (ji4)) = 0
            · rw [if_pos c7] at H
              have c7b0 : ((rd l0 (ji4)) == 0) = true := beq_iff_eq.mpr c7
              have c7b1 : ((rd l0 (ji4)) != 0) = false := bne_eq_false_iff_eq.mpr c7
              clear c7
              have H' := Aside0.mk H
              clear H
              have p227 : 0 ≤ ((ji4) : Int) := of_decide_eq_true (by first | (with_reducible assumption) | assumption)
              have q227 : (ji4) < (l0.length : Int) := of_decide_eq_true (by first | (with_reducible assumption) | assumption)
              obtain ⟨ad227, e227, hx227_0⟩ := Kd.at_int (Kd.R_reads' HO_0.out).2.2 (ji4) p227 q227
              cases e227
              replace p227 := eq_true p227
              replace q227 := eq_true q227
              go_wp2
              go_roundg k1
              case measure => have := HK1.out; omega
              case rel => exact ⟨(ji4), (by first | rfl | (simp; done) | (simp only [← hji4] <;> (first | rfl | simp)) | (simp [*]; done)), H', ⟨by have := HK1.out; omega⟩, ⟨by (with_reducible repeat (first | apply Kd.R_alloc | apply Kd.R_drewN | apply Kd.R_drew)); exact HO_0.out⟩, ⟨by repeat (first | (with_reducible first | exact HK.out | apply Kept.alloc | apply Kept.drewN | apply Kept.drew) | exact HK.out)⟩, ⟨by repeat (first | (with_reducible first | exact HB.out | apply below_alloc | apply pw_below_drewN | apply below_drew1) | exact HB.out)⟩⟩
            · rw [if_neg c7] at H
              have c7b0 : ((rd l0 (ji4)) == 0) = false := beq_eq_false_iff_ne.mpr c7
              have c7b1 : ((rd l0 (ji4)) != 0) = true := bne_iff_ne.mpr c7
              by_cases c8 : 0 ≤ x3_1
              · rw [if_pos c8] at H
                have c8b0 := eq_true c8
                have c8b1 : decide (0 ≤ x3_1) = true := decide_eq_true c8
                clear c8
                by_cases c9 : x3_1 ≤ (l0.length : Int)
                · rw [if_pos c9] at H
                  have c9b0 := eq_true c9
                  have c9b1 : decide (x3_1 ≤ (l0.length : Int)) = true := decide_eq_true c9
                  clear c9
                  obtain ⟨y228, hy228⟩ : ∃ y_ : List Int, y_ = (l0.take (x3_1 : Int).toNat) := ⟨_, rfl⟩
                  replace H : (some y228) = some r := by first | (rw [hy228]; with_reducible exact H) | (have H2_ := (Option.bind_some _ _).symm.trans H; rw [hy228]; with_reducible exact H2_) | (have H2_ := (Option.bind_some _ _).symm.trans H; with_reducible exact H2_) | with_reducible exact H | (rw [hy228]; exact H) | exact H
                  have Ny228 := Aside0.mk hy228
                  clear hy228
                  obtain rfl := Option.some.inj H
                  have p227 : 0 ≤ ((ji4) : Int) := of_decide_eq_true (by first | (with_reducible assumption) | assumption)
                  have q227 : (ji4) < (l0.length : Int) := of_decide_eq_true (by first | (with_reducible assumption) | assumption)
                  obtain ⟨ad227, e227, hx227_0⟩ := Kd.at_int (Kd.R_reads' HO_0.out).2.2 (ji4) p227 q227
                  cases e227
                  replace p227 := eq_true p227
                  replace q227 := eq_true q227
                  have q10 : (x3_1 : Int) ≤ ((l0.length : Int) : Int) := of_decide_eq_true (by first | (with_reducible assumption) | assumption)
                  obtain ⟨i010, hi010, _, hsz10, _⟩ := info_parts info71
                  have hcut10 := cut_to (P := Tryd.prog) 69 71 .i64 Tryd.underlying69 hi010 (some ad227) l0.length co2 x3_1 (of_decide_eq_true (by first | (with_reducible assumption) | assumption)) q10 (Kd.R_reads' HO_0.out).2.1
                  have hr10 := Kd.R_take (m := (x3_1 : Int).toNat) HO_0.out (by omega)
                  have hy10 : y228.length = (x3_1 : Int).toNat := (by rw [Ny228.out, List.length_take]; omega)
                  rw [← Ny228.out] at hr10
                  rw [← hy10] at hr10 hcut10
                  clear hy10 hi010 hsz10 HO_0
                  have HO230 := Aside0.mk hr10
                  clear hr10
                  replace q10 := eq_true q10
                  go_wp2
                  go_ret
                  exact ⟨_, by first | rfl | (simp [errW_none, errW_some] <;> rfl) | (simp only [← hji4]; first | rfl | (simp [errW_none, errW_some] <;> rfl)) | (simp [*, errW_none, errW_some] <;> rfl), by (with_reducible repeat (first | apply Kd.R_alloc | apply Kd.R_drewN | apply Kd.R_drew)); exact HO230.out, by repeat (first | (with_reducible first | exact HB.out | apply below_alloc | apply pw_below_drewN | apply below_drew1) | exact HB.out), by repeat (first | (with_reducible first | exact HK.out | apply Kept.alloc | apply Kept.drewN | apply Kept.drew) | exact HK.out)⟩
                · rw [if_neg c9] at H
                  exact absurd H (by simp)
              · rw [if_neg c8] at H
                exact absurd H (by simp)
          · rw [if_neg c6] at H
            exact absurd H (by simp)
        · rw [if_neg c5] at H
          exact absurd H (by simp)
      · rw [if_neg c3] at H
        have c3b0 : decide (0 < x3_1) = false := decide_eq_false c3
        clear c3
        by_cases c11 : 0 ≤ x3_1
        · rw [if_pos c11] at H
          have c11b0 := eq_true c11
          have c11b1 : decide (0 ≤ x3_1) = true := decide_eq_true c11
          clear c11
          by_cases c12 : x3_1 ≤ (l0.length : Int)
          · rw [if_pos c12] at H
            have c12b0 := eq_true c12
            have c12b1 : decide (x3_1 ≤ (l0.length : Int)) = true := decide_eq_true c12
            clear c12
            obtain ⟨y231, hy231⟩ : ∃ y_ : List Int, y_ = (l0.take (x3_1 : Int).toNat) := ⟨_, rfl⟩
            replace H : (some y231) = some r := by first | (rw [hy231]; with_reducible exact H) | (have H2_ := (Option.bind_some _ _).symm.trans H; rw [hy231]; with_reducible exact H2_) | (have H2_ := (Option.bind_some _ _).symm.trans H; with_reducible exact H2_) | with_reducible exact H | (rw [hy231]; exact H) | exact H
            have Ny231 := Aside0.mk hy231
            clear hy231
            obtain rfl := Option.some.inj H
            have q13 : (x3_1 : Int) ≤ ((l0.length : Int) : Int) := of_decide_eq_true (by first | (with_reducible assumption) | assumption)
            obtain ⟨i013, hi013, _, hsz13, _⟩ := info_parts info71
            have hcut13 := cut_to (P := Tryd.prog) 69 71 .i64 Tryd.underlying69 hi013 Ao2 l0.length co2 x3_1 (of_decide_eq_true (by first | (with_reducible assumption) | assumption)) q13 (Kd.R_reads' HO_0.out).2.1
            have hr13 := Kd.R_take (m := (x3_1 : Int).toNat) HO_0.out (by omega)
            have hy13 : y231.length = (x3_1 : Int).toNat := (by rw [Ny231.out, List.length_take]; omega)
            rw [← Ny231.out] at hr13
            rw [← hy13] at hr13 hcut13
            clear hy13 hi013 hsz13 HO_0
            have HO233 := Aside0.mk hr13
            clear hr13
            replace q13 := eq_true q13
            go_wp2
            go_ret
            exact ⟨_, by first | rfl | (simp [errW_none, errW_some] <;> rfl) | (simp [*, errW_none, errW_some] <;> rfl), by (with_reducible repeat (first | apply Kd.R_alloc | apply Kd.R_drewN | apply Kd.R_drew)); exact HO233.out, by repeat (first | (with_reducible first | exact HB.out | apply below_alloc | apply pw_below_drewN | apply below_drew1) | exact HB.out), by repeat (first | (with_reducible first | exact HK.out | apply Kept.alloc | apply Kept.drewN | apply Kept.drew) | exact HK.out)⟩
          · rw [if_neg c12] at H
            exact absurd H (by simp)
        · rw [if_neg c11] at H
          exact absurd H (by simp)

end Go.Proofs.YtdncmmipopdhbaaDoor.P
end
