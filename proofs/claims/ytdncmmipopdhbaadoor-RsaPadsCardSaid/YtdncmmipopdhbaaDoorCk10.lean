/-
  Parts of the walks and of the plain laws below the statement (Sm2). Texts named F.. are what the kit's print writes for one function each, through a program of mine that hands it contracts of the functions that it does not take.
-/
import Derived.Test.YtdncmmipopdhbaaDoorCk8
import Derived.Test.YtdncmmipopdhbaaDoorCk9
section
/-
  Walk: (*digest.Hash).Sum, blocks of 128 bytes (written by wip/gen/sm.py).
-/
set_option linter.unusedVariables false
set_option linter.unusedSimpArgs false
namespace Go.Proofs.YtdncmmipopdhbaaDoor.Sha
open Go.RowKit Go.Proofs.YtdncmmipopdhbaaDoor.K

theorem pad_more (R : Bytes) (k z : Nat) (h : k + 128 = z) : iws (R ++ 0x80#8 :: List.replicate k 0#8) ++ List.replicate 128 0 = iws (R ++ 0x80#8 :: List.replicate z 0#8) := by
  subst h
  have e : List.replicate (k + 128) 0#8 = List.replicate k 0#8 ++ List.replicate 128 0#8 := List.replicate_append_replicate.symm
  have e2 : iws (List.replicate 128 0#8) = List.replicate 128 0 := by unfold iws; rw [List.map_replicate]; rfl
  rw [e, show R ++ 0x80#8 :: (List.replicate k 0#8 ++ List.replicate 128 0#8) = (R ++ 0x80#8 :: List.replicate k 0#8) ++ List.replicate 128 0#8 by simp, iws_append (R ++ 0x80#8 :: List.replicate k 0#8) (List.replicate 128 0#8), e2]
def outV (vs : List (BitVec 64)) (i : Nat) : Bytes := (vs.take i).flatMap (fun x : BitVec 64 => (List.range 8).map fun k => (x >>> (56 - 8 * k)).setWidth 8)
def byteV (vs : List (BitVec 64)) (i k : Nat) : BitVec 8 := ((vs[i]?.getD 0#64) >>> (56 - 8 * k)).setWidth 8
theorem outV_succ (vs : List (BitVec 64)) (i : Nat) (hi : i < vs.length) : outV vs (i + 1) = outV vs i ++ (List.range 8).map (byteV vs i) := by
  unfold outV byteV
  rw [List.take_succ_eq_append_getElem hi, List.flatMap_append, List.getElem?_eq_getElem hi]
  simp
theorem outV_length (vs : List (BitVec 64)) : ∀ i, i ≤ vs.length → (outV vs i).length = 8 * i
  | 0, _ => rfl
  | i + 1, h => by rw [outV_succ vs i (by omega), List.length_append, outV_length vs i (by omega)]; simp; omega
theorem byteV_iw (vs : List (BitVec 64)) (i k : Nat) : iw (byteV vs i k) = iw (vs[i]?.getD 0#64) / 2 ^ (56 - 8 * k) % 256 := by
  simp [byteV, iw, Nat.shiftRight_eq_div_pow]
theorem byteV_succ (vs : List (BitVec 64)) (i k : Nat) : iws (outV vs i ++ (List.range (k + 1)).map (byteV vs i)) = iws (outV vs i ++ (List.range k).map (byteV vs i)) ++ [iw (vs[i]?.getD 0#64) / 2 ^ (56 - 8 * k) % 256] := by
  rw [List.range_succ, List.map_append, ← List.append_assoc, iws_append (outV vs i ++ _), ← byteV_iw]; rfl
theorem sizeN_le128 (alg : Int) (h0 : 1 ≤ alg) (h4 : alg ≤ 4) (hS : blkN alg = 128) : 0 ≤ sizeN alg ∧ sizeN alg ≤ 64 := by
  obtain rfl | rfl | rfl | rfl : alg = 1 ∨ alg = 2 ∨ alg = 3 ∨ alg = 4 := by omega
  all_goals decide
theorem hash_eq128 (alg : Int) (m : Bytes) {r n' j : Nat} {L tl : Bytes} {F : St} (hS : blkN alg = 128) (hr : (rest alg m).length = r) (hL : rest alg m ++ 0x80#8 :: List.replicate (zer 128 r) 0#8 = L)
    (hT : L ++ List.map (lenB m.length) (List.range 8) = tl) (hn : (iws tl).length = n') (hq : n' = 128 * j) (hF : absN alg (state alg m) tl j = F) (hw : F.vs.length = 8) : hashOf alg m = (outV F.vs 8).take (sizeN alg).toNat := by
  have e : rest alg m ++ fillB alg m = tl := by rw [← hT, ← hL, fillB, hS, hr]; simp
  rw [iws_length] at hn
  unfold hashOf
  rw [e, hn, hS, hq, Nat.mul_div_cancel_left _ (by omega), hF, outB, if_neg (by omega), outV, show F.vs.take 8 = F.vs from List.take_of_length_le (by omega)]
set_option maxHeartbeats 8000000 in
set_option maxRecDepth 100000 in
theorem sum128_calls (g base : Nat) (alg : Int) (m : Bytes) (h0 : 1 ≤ alg) (h4 : alg ≤ 4) (hS : blkN alg = 128) (w : World) (hm : HM w g base alg m) (hK : KAt w) (hbase : base ≤ w.heap.size) (hlen : m.length ≤ 16777216) :
    Calls Tryd.prog 79 #[.pointer (some ⟨g, 0, none⟩)] w fun e w' => ∃ v, e = .returned v ∧ Own w' w.heap.size .u8 5 v (iws (hashOf alg m)) ∧ Below w.heap.size w w' := by
  obtain ⟨rv, hH, hO, hne⟩ := hm.out
  obtain ⟨Ar, cr, rfl, hcr, hcr2, hAr, hRr⟩ := hO.rd
  rw [iws_length] at hcr hH hne
  have hrl := rest_lt alg m
  rw [hS] at hrl
  have hgl := hH.lt
  have c0 := hH.c0
  have c17 := hH.c17
  have c18 := hH.c18
  have hsz := sizeN_ne alg h0 h4
  clear hm
  go_enter Tryd.func79, Tryd.ntmps79
  go_wp2_with fail
  refine (sizef_calls alg _).mono ?_
  rintro e w1 ⟨rfl, rfl⟩
  have hcl : (hcells alg (state alg m).ws (state alg m).vs (.slice Ar (rest alg m).length cr) m.length).toArray.size = 19 := hcells_size hH.lw hH.lv
  have hi := info_hash
  rw [← hcl] at hi
  have HI := Lib.hid hi
  have H1 := Lib.hid (hcells_one alg (state alg m).ws (state alg m).vs Ar (rest alg m).length cr m.length)
  have HO := Lib.hid hH.out
  have HC := Lib.hid hcl
  clear hi hcl
  go_wp2_with (first | (refine wpList_load_row rfl 137 _ rfl g rfl _ _ _ _ HO.out Tryd.underlying137 rfl HI.out ?_) | (refine wpList_store_new rfl 137 _ _ rfl _ rfl rfl _ _ HI.out HC.out.symm H1.out ?_))
  have hH1 : HAt (w.alloc (.cells (hcells alg (state alg m).ws (state alg m).vs (.slice Ar (rest alg m).length cr) m.length).toArray 137)) w.heap.size alg (state alg m).ws (state alg m).vs (.slice Ar (rest alg m).length cr) m.length := ⟨heap_alloc_new _ _, hH.lw, hH.lv⟩
  have hb1 : Below w.heap.size w (w.alloc (.cells (hcells alg (state alg m).ws (state alg m).vs (.slice Ar (rest alg m).length cr) m.length).toArray 137)) := below_alloc (Below.refl _ _) _
  have hs1 : (w.alloc (.cells (hcells alg (state alg m).ws (state alg m).vs (.slice Ar (rest alg m).length cr) m.length).toArray 137)).heap.size = w.heap.size + 1 := by simp
  clear HI H1 HO HC
  generalize hw1 : (w.alloc (.cells (hcells alg (state alg m).ws (state alg m).vs (.slice Ar (rest alg m).length cr) m.length).toArray 137)) = w1 at *
  have hR1 := hRr.below hb1
  have c17 := hb1.cell (p := ⟨g, 17, none⟩) hgl |>.trans c17
  have hI1 : SI w alg (state alg m) (.slice Ar (rest alg m).length cr) m.length (.slice none 0 0) [] w1 := ⟨hH1, Own.nil _ _ _ _, hb1⟩
  have HS1 := Lib.hid hs1
  clear hw1 hs1 hb1 hH1
  have hr64 : (iws (rest alg m)).length = (rest alg m).length := iws_length _
  have HR64 := Lib.hid hr64
  clear hr64
  generalize hrn : (rest alg m).length = r at *
  have HRN := Lib.hid hrn
  clear hrn
  obtain ⟨T, hT1, hT2, hT3, hT4⟩ : ∃ T, r + 1 ≤ T ∧ T % 128 = 128 - 8 ∧ T < r + 1 + 128 ∧ T ≤ 2 * 128 - 8 := by
    by_cases h : r + 9 ≤ 128
    · exact ⟨128 - 8, by omega⟩
    · exact ⟨2 * 128 - 8, by omega⟩
  refine (blockf_calls alg h0 h4 _).mono ?_
  rintro e w2 ⟨rfl, rfl⟩
  rw [hS]
  go_wp2_with (first | (refine wpList_ap (w.heap.size + 1) .u8 rfl _ _ 31 5 1 (by rfl) Tryd.underlying31 info_u8 (by decide) (.slice none 0 0) [] (iws (rest alg m)) Ar r cr (by rfl) (by rfl) HR64.out hI1.o hR1 (by rw [HR64.out, List.length_nil]; omega) (by have := HS1.out; omega) r (by rw [HR64.out, List.length_nil]; omega) ?_; intro At ct wt hOt hgt _; have hIt := hI1.ap hOt hgt) | (refine wpList_ap1n (w.heap.size + 1) .u8 rfl _ _ 31 5 1 (by rfl) Tryd.underlying31 info_u8 (by decide) (.slice At r ct) (iws (rest alg m)) 128 (by rfl) (by rfl) hOt r HR64.out (by omega) (by have := hgt.size; have := HS1.out; omega) (r + 1) rfl ?_; intro Au cu wu hOu hgu; have hIu := hIt.ap hOu hgu; have hgu' : w.heap.size + 1 ≤ wu.heap.size := (by have := hgt.size; have := hgu.size; have := HS1.out; omega)))
  clear hIt hI1 hgt hgu hOt hOu hR1 c17
  go_loopw [5] (fun s5 wr => ∃ (n : Nat) (At : Option Addr) (ct : Nat), s5 = .slice At n ct ∧ ∃ k, Hid (r + 1 + k = n) ∧ n ≤ T ∧ w.heap.size + 1 ≤ wr.heap.size ∧ SI w alg (state alg m) (.slice Ar r cr) m.length (.slice At n ct) (iws (rest alg m ++ 0x80#8 :: List.replicate k 0#8)) wr) (fun s5 _ => T - sliceLen s5)
  case atStart => exact ⟨r + 1, Au, cu, rfl, 0, Lib.hid rfl, hT1, hgu', by simpa [iws, iw] using hIu⟩
  case round =>
    clear hIu
    obtain ⟨n, At, ct, rfl, k, hk, hnT, hge, hI⟩ := hrel
    have hn1 : r + 1 ≤ n := by have := hk.out; omega
    have hkl : (iws (rest alg m ++ 0x80#8 :: List.replicate k 0#8)).length = n := by rw [iws_length, List.length_append, List.length_cons, List.length_replicate, HRN.out]; have := hk.out; omega
    have HKL := Lib.hid hkl
    clear hkl
    by_cases hlt : n = T
    · have hq : (n : Int) % 128 = 120 := by omega
      have hkk := hk.out
      have c18' := (hI.b.cell (p := ⟨g, 18, none⟩) hgl).trans c18
      have c17' := (hI.b.cell (p := ⟨g, 17, none⟩) hgl).trans c17
      by_cases hmid : 112 ≤ r ∧ n = 120
      · obtain ⟨hr112, rfl⟩ := hmid
        have hz : k + 128 = zer 128 r := by unfold zer; simp only [if_neg (show ¬ (128 = 64) by omega)]; split <;> omega
        have hkl := HKL.out
        have hr112' : (112 : Int) ≤ (r : Int) := by omega
        have hq120 : ((120 : Nat) : Int) = 120 := rfl
        have HZ := Lib.hid hz
        clear hz hkk hk hq
        go_wp2_with (refine wpList_apzn (w.heap.size + 1) .u8 .i64 rfl _ _ 31 3 5 1 (by rfl) Tryd.underlying31 Tryd.underlying3 info_u8 (by decide) At 120 ct _ 128 (by rfl) (by rfl) hI.o hkl (by omega) (by omega) (by omega) (by have := HS1.out; omega) 248 rfl ?_; intro Au cu wu hOu hgu; have hIu := hI.ap hOu hgu)
        have hge2 := Nat.le_trans hge hgu.size
        clear hI c18' c17' hOu hgu hge hkl
        have hI := hIu
        have hge := hge2
        clear hIu hge2
        have eZ := pad_more (rest alg m) k (zer 128 r) HZ.out
        rw [eZ] at hI
        clear eZ
        have HKL2 : Hid ((iws (rest alg m ++ 0x80#8 :: List.replicate (zer 128 r) 0#8)).length = 248) := Lib.hid (by rw [iws_length, List.length_append, List.length_cons, List.length_replicate, HRN.out, ← HZ.out]; have := HKL.out; rw [iws_length, List.length_append, List.length_cons, List.length_replicate, HRN.out] at this; omega)
        clear HKL
        have HKL := HKL2
        clear HKL2 HZ

        generalize hL : rest alg m ++ 0x80#8 :: List.replicate (zer 128 r) 0#8 = L at *
        have HL := Lib.hid hL
        have hnT' : 248 % 128 = 120 := by omega
        clear hL hlt hcr hcr2 hAr hT1 hT2 hT3
        have c18' := (hI.b.cell (p := ⟨g, 18, none⟩) hgl).trans c18
        have c17' := (hI.b.cell (p := ⟨g, 17, none⟩) hgl).trans c17
        go_loopw [5, 63] (fun s5 s63 wr => ∃ (i : Nat) (n' : Nat) (At : Option Addr) (ct : Nat), s5 = .slice At n' ct ∧ s63 = .int .i64 i ∧ i ≤ 8 ∧ Hid (248 + i = n') ∧ w.heap.size + 1 ≤ wr.heap.size ∧ SI w alg (state alg m) (.slice Ar r cr) m.length (.slice At n' ct) (iws (L ++ (List.range i).map (lenB m.length))) wr) (fun _ s63 _ => 8 - (intOf s63).toNat)
        case atStart => exact ⟨0, 248, Au, cu, rfl, rfl, by omega, Lib.hid rfl, hge, by simpa using hI⟩
        case round =>
          clear hI c18' c17' hge
          obtain ⟨i, n', At2, ct2, rfl, rfl, hi8, hn', hge, hI⟩ := hrel
          have c18' := (hI.b.cell (p := ⟨g, 18, none⟩) hgl).trans c18
          have hnl : (iws (L ++ (List.range i).map (lenB m.length))).length = n' := by rw [iws_length, List.length_append, List.length_map, List.length_range]; rw [iws_length] at HKL; have := hn'.out; have := HKL.out; omega
          have HNL := Lib.hid hnl
          clear hnl
          have hn9 : n' ≤ 300 := by have := hn'.out; omega
          by_cases hlt : i < 8
          · have hd : (i : Int) < 8 := by omega
            go_wp2_with (refine wpList_ap1n (w.heap.size + 1) .u8 rfl _ _ 31 5 1 (by rfl) Tryd.underlying31 info_u8 (by decide) (.slice At2 n' ct2) _ _ (by rfl) (by rfl) hI.o n' HNL.out (by omega) (by omega) (n' + 1) rfl ?_; intro Au cu wu hOu hgu; have hIu := hI.ap hOu hgu)
            go_roundw
            case rel =>
              refine ⟨i + 1, n' + 1, Au, cu, rfl, by go_num, by omega, Lib.hid (by have := hn'.out; omega), Nat.le_trans hge hgu.size, ?_⟩
              rw [lenB_succ]; exact hIu
            case measure => simp [intOf]; omega
          · obtain rfl : i = 8 := by omega
            clear c18' hi8 hlt
            obtain ⟨q, hq0⟩ : ∃ q, n' = 128 * q := ⟨n' / 128, by have := hn'.out; omega⟩
            have HQ := Lib.hid hq0
            generalize hT : L ++ List.map (lenB m.length) (List.range 8) = tl at *
            have HT := Lib.hid hT
            clear hT hn' hq0
            go_wp2
            go_loopw [7] (fun s7 wr => ∃ (j p : Nat), s7 = .int .i64 p ∧ Hid (p = 128 * j) ∧ j ≤ q ∧ w.heap.size + 1 ≤ wr.heap.size ∧ SI w alg (absN alg (state alg m) tl j) (.slice Ar r cr) m.length (.slice At2 n' ct2) (iws tl) wr) (fun s7 _ => n' - (intOf s7).toNat)
            case atStart => exact ⟨0, 0, rfl, Lib.hid rfl, Nat.zero_le _, hge, hI⟩
            case round =>
              clear hI hge
              obtain ⟨j, p, rfl, hp, hjq, hge, hI⟩ := hrel
              have hp1 := hp.out
              have hq1 := HQ.out
              by_cases hlt : j < q
              · have hd : (p : Int) < (n' : Int) := by omega
                obtain ⟨A9, c9, e9, hle9, h639, hAo, hR9⟩ := hI.o.rd
                rw [HNL.out] at e9 hle9
                obtain ⟨rfl, _, rfl⟩ := Value.slice.inj e9
                clear e9 hAo
                obtain ⟨A3, hs3, hr3, ha3⟩ := cut_mid (P := Tryd.prog) 31 5 Tryd.underlying31 info_u8 At2 n' ct2 .i64 .i64 (p : Int) ((p : Int) + 128) (by omega) (by omega) (by omega) hle9
                have e1 : ((p : Int) + 128).toNat - ((p : Int)).toNat = 128 := by omega
                rw [e1, Int.toNat_natCast] at hs3
                rw [e1, Int.toNat_natCast] at hr3
                have HR3 := Lib.hid hr3
                clear hr3 ha3 e1 hp1 hq1
                go_wp2_with fail
                have hl : ((tl.drop p).take 128).length = 128 := by rw [List.length_take, List.length_drop]; have := HNL.out; rw [iws_length] at this; have := hp.out; have := HQ.out; omega
                have hR3 := HR3.out wr .u8 (iws tl) HNL.out hR9
                rw [iws_drop, iws_take] at hR3
                have bc := block_calls w.heap.size alg m.length (absN alg (state alg m) tl j).ws (absN alg (state alg m) tl j).vs (.slice Ar r cr) A3 (ct2 - p) ((tl.drop p).take 128) wr hI.h hR3 (by rw [hl, hS]; exact Nat.le_refl _) (hK.below hI.b)
                rw [hl] at bc
                refine bc.mono ?_
                rintro e w3 ⟨rfl, hH3, hg3⟩
                clear bc hl hR3
                have hge3 := Nat.le_trans hge hg3.size
                have hI3 := hI.mix (s' := mixB alg (absN alg (state alg m) tl j) ((tl.drop p).take 128)) hH3 hg3
                have em : mixB alg (absN alg (state alg m) tl j) ((tl.drop p).take 128) = absN alg (state alg m) tl (j + 1) := by rw [absN, hS, hp.out, Nat.mul_comm]
                rw [em] at hI3
                have HP := Lib.hid hlt
                clear em hI hH3 hg3
                go_wp2
                go_roundw
                case rel =>
                  first | exact ⟨j + 1, p + 128, by go_num, Lib.hid (by have := hp.out; omega), HP.out, hge3, hI3⟩ | ((repeat apply Exists.intro); exact ⟨⟨j + 1, p + 128, by go_num, Lib.hid (by have := hp.out; omega), HP.out, hge3, hI3⟩, rfl⟩)
                case measure => simp [intOf]; have := HP.out; have := HQ.out; have := hp.out; omega
              · obtain rfl : j = q := by omega
                have hd : ¬ (p : Int) < (n' : Int) := by omega
                clear hp1 hq1 hlt hjq
                go_wp2
                have hI2 : SI w alg (absN alg (state alg m) tl j) (.slice Ar r cr) m.length (.slice none 0 0) [] wr := ⟨hI.h, Own.nil _ _ _ _, hI.b⟩
                clear hI hd
                generalize hF : absN alg (state alg m) tl j = F at *
                have HF := Lib.hid hF
                clear hF
                go_loopw [8, 95] (fun s8 s95 wr => ∃ (i n2 : Nat) (Ao : Option Addr) (co : Nat), s8 = .slice Ao n2 co ∧ s95 = .int .i64 i ∧ i ≤ 8 ∧ Hid (n2 = 8 * i) ∧ w.heap.size + 1 ≤ wr.heap.size ∧ SI w alg F (.slice Ar r cr) m.length (.slice Ao n2 co) (iws (outV F.vs i)) wr) (fun _ s95 _ => 8 - (intOf s95).toNat)
                case atStart => exact ⟨0, 0, none, 0, rfl, rfl, by omega, Lib.hid rfl, hge, hI2⟩
                case round =>
                  clear hI2 hge
                  obtain ⟨i, n2, Ao, co, rfl, rfl, hi8, hn2, hge, hI⟩ := hrel
                  by_cases hlt : i < 8
                  · have hd : (i : Int) < 8 := by omega
                    obtain ⟨wo, rfl⟩ : ∃ wo : World, wo = wr := ⟨_, rfl⟩
                    go_wp2
                    go_loopw [8, 126, 10] (fun s8 s126 s10 wr => ∃ (k n3 : Nat) (Ao : Option Addr) (co : Nat), s8 = .slice Ao n3 co ∧ s126 = .int .i64 k ∧ k ≤ 8 ∧ Hid (n3 = 8 * i + k) ∧ w.heap.size + 1 ≤ wr.heap.size ∧ SI w alg F (.slice Ar r cr) m.length (.slice Ao n3 co) (iws (outV F.vs i ++ (List.range k).map (byteV F.vs i))) wr) (fun _ s126 _ _ => 8 - (intOf s126).toNat)
                    case atStart => exact ⟨0, n2, Ao, co, rfl, rfl, by omega, Lib.hid (by have := hn2.out; omega), hge, by simpa using hI⟩
                    case round =>
                      clear hI hge
                      obtain ⟨k, n3, Ai, ci, rfl, rfl, hk8, hn3, hge, hI⟩ := hrel
                      have hl8 : (iws (outV F.vs i ++ (List.range k).map (byteV F.vs i))).length = n3 := by rw [iws_length, List.length_append, outV_length _ _ (by rw [hI.h.lv]; omega), List.length_map, List.length_range]; exact hn3.out.symm
                      have HL8 := Lib.hid hl8
                      clear hl8
                      have hn90 : n3 ≤ 90 := by have := hn3.out; omega
                      by_cases hlk : k < 8
                      · have hdk : (k : Int) < 8 := by omega
                        have ci_ := hI.h.cv i hlt
                        go_wp2_with (refine wpList_ap1n (w.heap.size + 1) .u8 rfl _ _ 31 5 1 (by rfl) Tryd.underlying31 info_u8 (by decide) (.slice Ai n3 ci) _ _ (by rfl) (by rfl) hI.o n3 HL8.out (by omega) (by omega) (n3 + 1) rfl ?_; intro Au cu wu hOu hgu; have hIu := hI.ap hOu hgu)
                        go_roundw
                        case rel =>
                          refine ⟨k + 1, n3 + 1, Au, cu, rfl, by go_num, by omega, Lib.hid (by have := hn3.out; omega), Nat.le_trans hge hgu.size, ?_⟩
                          rw [byteV_succ]; exact hIu
                        case measure => simp [intOf]; omega
                      · obtain rfl : k = 8 := by omega
                        have hdk : ¬ (8 : Int) < 8 := by omega
                        go_wp2
                        go_roundw
                        case rel =>
                          refine ⟨i + 1, n3, Ai, ci, rfl, by go_num, by omega, Lib.hid (by have := hn3.out; omega), hge, ?_⟩
                          rw [outV_succ F.vs i (by rw [hI.h.lv]; exact hlt)]; exact hI
                        case measure => simp [intOf]; omega
                  · obtain rfl : i = 8 := by omega
                    have c0' := (hI.b.cell (p := ⟨g, 0, none⟩) hgl).trans c0
                    have c17' := (hI.b.cell (p := ⟨g, 17, none⟩) hgl).trans c17
                    go_wp2_with fail
                    refine (sizef_calls alg _).mono ?_
                    rintro e w9 ⟨rfl, rfl⟩
                    obtain ⟨hz0, hz1⟩ := sizeN_le128 alg h0 h4 hS
                    have hn8 := hn2.out
                    obtain ⟨A9, c9, e9, hle9, _, _, _⟩ := hI.o.rd
                    have hlo : (iws (outV F.vs 8)).length = n2 := by rw [iws_length, outV_length _ _ (by rw [hI.h.lv]; omega)]; omega
                    rw [hlo] at e9 hle9
                    obtain ⟨rfl, _, rfl⟩ := Value.slice.inj e9
                    clear e9
                    have hs9 := cut_to (P := Tryd.prog) 31 5 Tryd.underlying31 info_u8 Ao n2 co .i64 (sizeN alg) hz0 (by omega)
                    have HLO := Lib.hid hlo
                    have HN8 := Lib.hid hn8
                    clear hlo hn8 hle9
                    go_wp2
                    go_ret
                    refine ⟨_, rfl, ?_, hI.b⟩
                    rw [hash_eq128 alg m hS HRN.out HL.out HT.out HNL.out HQ.out HF.out hI.h.lv, ← iws_take]
                    exact (hI.o.mono (Nat.le_succ _)).take HLO.out (by have := HN8.out; omega)

      · have hz : k = zer 128 r := by unfold zer; simp only [if_neg (show ¬ (128 = 64) by omega)]; split <;> omega
        subst hz
        have hdm : (decide ((112 : Int) ≤ (r : Int)) && ((n : Int) == 120)) = false := by
          by_cases h1 : 112 ≤ r
          · have : ¬ n = 120 := fun h => hmid ⟨h1, h⟩
            have h2 : ((n : Int) == 120) = false := by simp; omega
            rw [h2, Bool.and_false]
          · have : decide ((112 : Int) ≤ (r : Int)) = false := by simp; omega
            rw [this, Bool.false_and]
        by_cases hr112 : 112 ≤ r
        · have hn120 : ((n : Int) == 120) = false := by have : ¬ n = 120 := fun h => hmid ⟨hr112, h⟩; simp; omega
          have hr112' : (112 : Int) ≤ (r : Int) := by omega
          clear hk hkk c18' c17' hmid hdm

          generalize hL : rest alg m ++ 0x80#8 :: List.replicate (zer 128 r) 0#8 = L at *
          have HL := Lib.hid hL
          have hnT' : n % 128 = 120 := by omega
          clear hL hlt hcr hcr2 hAr hT1 hT2 hT3
          have c18' := (hI.b.cell (p := ⟨g, 18, none⟩) hgl).trans c18
          have c17' := (hI.b.cell (p := ⟨g, 17, none⟩) hgl).trans c17
          go_wp2
          try simp only [hq]
          clear hq
          go_loopw [5, 63] (fun s5 s63 wr => ∃ (i : Nat) (n' : Nat) (At : Option Addr) (ct : Nat), s5 = .slice At n' ct ∧ s63 = .int .i64 i ∧ i ≤ 8 ∧ Hid (n + i = n') ∧ w.heap.size + 1 ≤ wr.heap.size ∧ SI w alg (state alg m) (.slice Ar r cr) m.length (.slice At n' ct) (iws (L ++ (List.range i).map (lenB m.length))) wr) (fun _ s63 _ => 8 - (intOf s63).toNat)
          case atStart => exact ⟨0, n, At, ct, rfl, rfl, by omega, Lib.hid rfl, hge, by simpa using hI⟩
          case round =>
            clear hI c18' c17' hge
            obtain ⟨i, n', At2, ct2, rfl, rfl, hi8, hn', hge, hI⟩ := hrel
            have c18' := (hI.b.cell (p := ⟨g, 18, none⟩) hgl).trans c18
            have hnl : (iws (L ++ (List.range i).map (lenB m.length))).length = n' := by rw [iws_length, List.length_append, List.length_map, List.length_range]; rw [iws_length] at HKL; have := hn'.out; have := HKL.out; omega
            have HNL := Lib.hid hnl
            clear hnl
            have hn9 : n' ≤ 300 := by have := hn'.out; omega
            by_cases hlt : i < 8
            · have hd : (i : Int) < 8 := by omega
              go_wp2_with (refine wpList_ap1n (w.heap.size + 1) .u8 rfl _ _ 31 5 1 (by rfl) Tryd.underlying31 info_u8 (by decide) (.slice At2 n' ct2) _ _ (by rfl) (by rfl) hI.o n' HNL.out (by omega) (by omega) (n' + 1) rfl ?_; intro Au cu wu hOu hgu; have hIu := hI.ap hOu hgu)
              go_roundw
              case rel =>
                refine ⟨i + 1, n' + 1, Au, cu, rfl, by go_num, by omega, Lib.hid (by have := hn'.out; omega), Nat.le_trans hge hgu.size, ?_⟩
                rw [lenB_succ]; exact hIu
              case measure => simp [intOf]; omega
            · obtain rfl : i = 8 := by omega
              clear c18' hi8 hlt
              obtain ⟨q, hq0⟩ : ∃ q, n' = 128 * q := ⟨n' / 128, by have := hn'.out; omega⟩
              have HQ := Lib.hid hq0
              generalize hT : L ++ List.map (lenB m.length) (List.range 8) = tl at *
              have HT := Lib.hid hT
              clear hT hn' hq0
              go_wp2
              go_loopw [7] (fun s7 wr => ∃ (j p : Nat), s7 = .int .i64 p ∧ Hid (p = 128 * j) ∧ j ≤ q ∧ w.heap.size + 1 ≤ wr.heap.size ∧ SI w alg (absN alg (state alg m) tl j) (.slice Ar r cr) m.length (.slice At2 n' ct2) (iws tl) wr) (fun s7 _ => n' - (intOf s7).toNat)
              case atStart => exact ⟨0, 0, rfl, Lib.hid rfl, Nat.zero_le _, hge, hI⟩
              case round =>
                clear hI hge
                obtain ⟨j, p, rfl, hp, hjq, hge, hI⟩ := hrel
                have hp1 := hp.out
                have hq1 := HQ.out
                by_cases hlt : j < q
                · have hd : (p : Int) < (n' : Int) := by omega
                  obtain ⟨A9, c9, e9, hle9, h639, hAo, hR9⟩ := hI.o.rd
                  rw [HNL.out] at e9 hle9
                  obtain ⟨rfl, _, rfl⟩ := Value.slice.inj e9
                  clear e9 hAo
                  obtain ⟨A3, hs3, hr3, ha3⟩ := cut_mid (P := Tryd.prog) 31 5 Tryd.underlying31 info_u8 At2 n' ct2 .i64 .i64 (p : Int) ((p : Int) + 128) (by omega) (by omega) (by omega) hle9
                  have e1 : ((p : Int) + 128).toNat - ((p : Int)).toNat = 128 := by omega
                  rw [e1, Int.toNat_natCast] at hs3
                  rw [e1, Int.toNat_natCast] at hr3
                  have HR3 := Lib.hid hr3
                  clear hr3 ha3 e1 hp1 hq1
                  go_wp2_with fail
                  have hl : ((tl.drop p).take 128).length = 128 := by rw [List.length_take, List.length_drop]; have := HNL.out; rw [iws_length] at this; have := hp.out; have := HQ.out; omega
                  have hR3 := HR3.out wr .u8 (iws tl) HNL.out hR9
                  rw [iws_drop, iws_take] at hR3
                  have bc := block_calls w.heap.size alg m.length (absN alg (state alg m) tl j).ws (absN alg (state alg m) tl j).vs (.slice Ar r cr) A3 (ct2 - p) ((tl.drop p).take 128) wr hI.h hR3 (by rw [hl, hS]; exact Nat.le_refl _) (hK.below hI.b)
                  rw [hl] at bc
                  refine bc.mono ?_
                  rintro e w3 ⟨rfl, hH3, hg3⟩
                  clear bc hl hR3
                  have hge3 := Nat.le_trans hge hg3.size
                  have hI3 := hI.mix (s' := mixB alg (absN alg (state alg m) tl j) ((tl.drop p).take 128)) hH3 hg3
                  have em : mixB alg (absN alg (state alg m) tl j) ((tl.drop p).take 128) = absN alg (state alg m) tl (j + 1) := by rw [absN, hS, hp.out, Nat.mul_comm]
                  rw [em] at hI3
                  have HP := Lib.hid hlt
                  clear em hI hH3 hg3
                  go_wp2
                  go_roundw
                  case rel =>
                    first | exact ⟨j + 1, p + 128, by go_num, Lib.hid (by have := hp.out; omega), HP.out, hge3, hI3⟩ | ((repeat apply Exists.intro); exact ⟨⟨j + 1, p + 128, by go_num, Lib.hid (by have := hp.out; omega), HP.out, hge3, hI3⟩, rfl⟩)
                  case measure => simp [intOf]; have := HP.out; have := HQ.out; have := hp.out; omega
                · obtain rfl : j = q := by omega
                  have hd : ¬ (p : Int) < (n' : Int) := by omega
                  clear hp1 hq1 hlt hjq
                  go_wp2
                  have hI2 : SI w alg (absN alg (state alg m) tl j) (.slice Ar r cr) m.length (.slice none 0 0) [] wr := ⟨hI.h, Own.nil _ _ _ _, hI.b⟩
                  clear hI hd
                  generalize hF : absN alg (state alg m) tl j = F at *
                  have HF := Lib.hid hF
                  clear hF
                  go_loopw [8, 95] (fun s8 s95 wr => ∃ (i n2 : Nat) (Ao : Option Addr) (co : Nat), s8 = .slice Ao n2 co ∧ s95 = .int .i64 i ∧ i ≤ 8 ∧ Hid (n2 = 8 * i) ∧ w.heap.size + 1 ≤ wr.heap.size ∧ SI w alg F (.slice Ar r cr) m.length (.slice Ao n2 co) (iws (outV F.vs i)) wr) (fun _ s95 _ => 8 - (intOf s95).toNat)
                  case atStart => exact ⟨0, 0, none, 0, rfl, rfl, by omega, Lib.hid rfl, hge, hI2⟩
                  case round =>
                    clear hI2 hge
                    obtain ⟨i, n2, Ao, co, rfl, rfl, hi8, hn2, hge, hI⟩ := hrel
                    by_cases hlt : i < 8
                    · have hd : (i : Int) < 8 := by omega
                      obtain ⟨wo, rfl⟩ : ∃ wo : World, wo = wr := ⟨_, rfl⟩
                      go_wp2
                      go_loopw [8, 126, 10] (fun s8 s126 s10 wr => ∃ (k n3 : Nat) (Ao : Option Addr) (co : Nat), s8 = .slice Ao n3 co ∧ s126 = .int .i64 k ∧ k ≤ 8 ∧ Hid (n3 = 8 * i + k) ∧ w.heap.size + 1 ≤ wr.heap.size ∧ SI w alg F (.slice Ar r cr) m.length (.slice Ao n3 co) (iws (outV F.vs i ++ (List.range k).map (byteV F.vs i))) wr) (fun _ s126 _ _ => 8 - (intOf s126).toNat)
                      case atStart => exact ⟨0, n2, Ao, co, rfl, rfl, by omega, Lib.hid (by have := hn2.out; omega), hge, by simpa using hI⟩
                      case round =>
                        clear hI hge
                        obtain ⟨k, n3, Ai, ci, rfl, rfl, hk8, hn3, hge, hI⟩ := hrel
                        have hl8 : (iws (outV F.vs i ++ (List.range k).map (byteV F.vs i))).length = n3 := by rw [iws_length, List.length_append, outV_length _ _ (by rw [hI.h.lv]; omega), List.length_map, List.length_range]; exact hn3.out.symm
                        have HL8 := Lib.hid hl8
                        clear hl8
                        have hn90 : n3 ≤ 90 := by have := hn3.out; omega
                        by_cases hlk : k < 8
                        · have hdk : (k : Int) < 8 := by omega
                          have ci_ := hI.h.cv i hlt
                          go_wp2_with (refine wpList_ap1n (w.heap.size + 1) .u8 rfl _ _ 31 5 1 (by rfl) Tryd.underlying31 info_u8 (by decide) (.slice Ai n3 ci) _ _ (by rfl) (by rfl) hI.o n3 HL8.out (by omega) (by omega) (n3 + 1) rfl ?_; intro Au cu wu hOu hgu; have hIu := hI.ap hOu hgu)
                          go_roundw
                          case rel =>
                            refine ⟨k + 1, n3 + 1, Au, cu, rfl, by go_num, by omega, Lib.hid (by have := hn3.out; omega), Nat.le_trans hge hgu.size, ?_⟩
                            rw [byteV_succ]; exact hIu
                          case measure => simp [intOf]; omega
                        · obtain rfl : k = 8 := by omega
                          have hdk : ¬ (8 : Int) < 8 := by omega
                          go_wp2
                          go_roundw
                          case rel =>
                            refine ⟨i + 1, n3, Ai, ci, rfl, by go_num, by omega, Lib.hid (by have := hn3.out; omega), hge, ?_⟩
                            rw [outV_succ F.vs i (by rw [hI.h.lv]; exact hlt)]; exact hI
                          case measure => simp [intOf]; omega
                    · obtain rfl : i = 8 := by omega
                      have c0' := (hI.b.cell (p := ⟨g, 0, none⟩) hgl).trans c0
                      have c17' := (hI.b.cell (p := ⟨g, 17, none⟩) hgl).trans c17
                      go_wp2_with fail
                      refine (sizef_calls alg _).mono ?_
                      rintro e w9 ⟨rfl, rfl⟩
                      obtain ⟨hz0, hz1⟩ := sizeN_le128 alg h0 h4 hS
                      have hn8 := hn2.out
                      obtain ⟨A9, c9, e9, hle9, _, _, _⟩ := hI.o.rd
                      have hlo : (iws (outV F.vs 8)).length = n2 := by rw [iws_length, outV_length _ _ (by rw [hI.h.lv]; omega)]; omega
                      rw [hlo] at e9 hle9
                      obtain ⟨rfl, _, rfl⟩ := Value.slice.inj e9
                      clear e9
                      have hs9 := cut_to (P := Tryd.prog) 31 5 Tryd.underlying31 info_u8 Ao n2 co .i64 (sizeN alg) hz0 (by omega)
                      have HLO := Lib.hid hlo
                      have HN8 := Lib.hid hn8
                      clear hlo hn8 hle9
                      go_wp2
                      go_ret
                      refine ⟨_, rfl, ?_, hI.b⟩
                      rw [hash_eq128 alg m hS HRN.out HL.out HT.out HNL.out HQ.out HF.out hI.h.lv, ← iws_take]
                      exact (hI.o.mono (Nat.le_succ _)).take HLO.out (by have := HN8.out; omega)

        · have hr112' : ¬ (112 : Int) ≤ (r : Int) := by omega
          clear hk hkk c18' c17' hmid hdm

          generalize hL : rest alg m ++ 0x80#8 :: List.replicate (zer 128 r) 0#8 = L at *
          have HL := Lib.hid hL
          have hnT' : n % 128 = 120 := by omega
          clear hL hlt hcr hcr2 hAr hT1 hT2 hT3
          have c18' := (hI.b.cell (p := ⟨g, 18, none⟩) hgl).trans c18
          have c17' := (hI.b.cell (p := ⟨g, 17, none⟩) hgl).trans c17
          go_wp2
          try simp only [hq]
          clear hq
          go_loopw [5, 63] (fun s5 s63 wr => ∃ (i : Nat) (n' : Nat) (At : Option Addr) (ct : Nat), s5 = .slice At n' ct ∧ s63 = .int .i64 i ∧ i ≤ 8 ∧ Hid (n + i = n') ∧ w.heap.size + 1 ≤ wr.heap.size ∧ SI w alg (state alg m) (.slice Ar r cr) m.length (.slice At n' ct) (iws (L ++ (List.range i).map (lenB m.length))) wr) (fun _ s63 _ => 8 - (intOf s63).toNat)
          case atStart => exact ⟨0, n, At, ct, rfl, rfl, by omega, Lib.hid rfl, hge, by simpa using hI⟩
          case round =>
            clear hI c18' c17' hge
            obtain ⟨i, n', At2, ct2, rfl, rfl, hi8, hn', hge, hI⟩ := hrel
            have c18' := (hI.b.cell (p := ⟨g, 18, none⟩) hgl).trans c18
            have hnl : (iws (L ++ (List.range i).map (lenB m.length))).length = n' := by rw [iws_length, List.length_append, List.length_map, List.length_range]; rw [iws_length] at HKL; have := hn'.out; have := HKL.out; omega
            have HNL := Lib.hid hnl
            clear hnl
            have hn9 : n' ≤ 300 := by have := hn'.out; omega
            by_cases hlt : i < 8
            · have hd : (i : Int) < 8 := by omega
              go_wp2_with (refine wpList_ap1n (w.heap.size + 1) .u8 rfl _ _ 31 5 1 (by rfl) Tryd.underlying31 info_u8 (by decide) (.slice At2 n' ct2) _ _ (by rfl) (by rfl) hI.o n' HNL.out (by omega) (by omega) (n' + 1) rfl ?_; intro Au cu wu hOu hgu; have hIu := hI.ap hOu hgu)
              go_roundw
              case rel =>
                refine ⟨i + 1, n' + 1, Au, cu, rfl, by go_num, by omega, Lib.hid (by have := hn'.out; omega), Nat.le_trans hge hgu.size, ?_⟩
                rw [lenB_succ]; exact hIu
              case measure => simp [intOf]; omega
            · obtain rfl : i = 8 := by omega
              clear c18' hi8 hlt
              obtain ⟨q, hq0⟩ : ∃ q, n' = 128 * q := ⟨n' / 128, by have := hn'.out; omega⟩
              have HQ := Lib.hid hq0
              generalize hT : L ++ List.map (lenB m.length) (List.range 8) = tl at *
              have HT := Lib.hid hT
              clear hT hn' hq0
              go_wp2
              go_loopw [7] (fun s7 wr => ∃ (j p : Nat), s7 = .int .i64 p ∧ Hid (p = 128 * j) ∧ j ≤ q ∧ w.heap.size + 1 ≤ wr.heap.size ∧ SI w alg (absN alg (state alg m) tl j) (.slice Ar r cr) m.length (.slice At2 n' ct2) (iws tl) wr) (fun s7 _ => n' - (intOf s7).toNat)
              case atStart => exact ⟨0, 0, rfl, Lib.hid rfl, Nat.zero_le _, hge, hI⟩
              case round =>
                clear hI hge
                obtain ⟨j, p, rfl, hp, hjq, hge, hI⟩ := hrel
                have hp1 := hp.out
                have hq1 := HQ.out
                by_cases hlt : j < q
                · have hd : (p : Int) < (n' : Int) := by omega
                  obtain ⟨A9, c9, e9, hle9, h639, hAo, hR9⟩ := hI.o.rd
                  rw [HNL.out] at e9 hle9
                  obtain ⟨rfl, _, rfl⟩ := Value.slice.inj e9
                  clear e9 hAo
                  obtain ⟨A3, hs3, hr3, ha3⟩ := cut_mid (P := Tryd.prog) 31 5 Tryd.underlying31 info_u8 At2 n' ct2 .i64 .i64 (p : Int) ((p : Int) + 128) (by omega) (by omega) (by omega) hle9
                  have e1 : ((p : Int) + 128).toNat - ((p : Int)).toNat = 128 := by omega
                  rw [e1, Int.toNat_natCast] at hs3
                  rw [e1, Int.toNat_natCast] at hr3
                  have HR3 := Lib.hid hr3
                  clear hr3 ha3 e1 hp1 hq1
                  go_wp2_with fail
                  have hl : ((tl.drop p).take 128).length = 128 := by rw [List.length_take, List.length_drop]; have := HNL.out; rw [iws_length] at this; have := hp.out; have := HQ.out; omega
                  have hR3 := HR3.out wr .u8 (iws tl) HNL.out hR9
                  rw [iws_drop, iws_take] at hR3
                  have bc := block_calls w.heap.size alg m.length (absN alg (state alg m) tl j).ws (absN alg (state alg m) tl j).vs (.slice Ar r cr) A3 (ct2 - p) ((tl.drop p).take 128) wr hI.h hR3 (by rw [hl, hS]; exact Nat.le_refl _) (hK.below hI.b)
                  rw [hl] at bc
                  refine bc.mono ?_
                  rintro e w3 ⟨rfl, hH3, hg3⟩
                  clear bc hl hR3
                  have hge3 := Nat.le_trans hge hg3.size
                  have hI3 := hI.mix (s' := mixB alg (absN alg (state alg m) tl j) ((tl.drop p).take 128)) hH3 hg3
                  have em : mixB alg (absN alg (state alg m) tl j) ((tl.drop p).take 128) = absN alg (state alg m) tl (j + 1) := by rw [absN, hS, hp.out, Nat.mul_comm]
                  rw [em] at hI3
                  have HP := Lib.hid hlt
                  clear em hI hH3 hg3
                  go_wp2
                  go_roundw
                  case rel =>
                    first | exact ⟨j + 1, p + 128, by go_num, Lib.hid (by have := hp.out; omega), HP.out, hge3, hI3⟩ | ((repeat apply Exists.intro); exact ⟨⟨j + 1, p + 128, by go_num, Lib.hid (by have := hp.out; omega), HP.out, hge3, hI3⟩, rfl⟩)
                  case measure => simp [intOf]; have := HP.out; have := HQ.out; have := hp.out; omega
                · obtain rfl : j = q := by omega
                  have hd : ¬ (p : Int) < (n' : Int) := by omega
                  clear hp1 hq1 hlt hjq
                  go_wp2
                  have hI2 : SI w alg (absN alg (state alg m) tl j) (.slice Ar r cr) m.length (.slice none 0 0) [] wr := ⟨hI.h, Own.nil _ _ _ _, hI.b⟩
                  clear hI hd
                  generalize hF : absN alg (state alg m) tl j = F at *
                  have HF := Lib.hid hF
                  clear hF
                  go_loopw [8, 95] (fun s8 s95 wr => ∃ (i n2 : Nat) (Ao : Option Addr) (co : Nat), s8 = .slice Ao n2 co ∧ s95 = .int .i64 i ∧ i ≤ 8 ∧ Hid (n2 = 8 * i) ∧ w.heap.size + 1 ≤ wr.heap.size ∧ SI w alg F (.slice Ar r cr) m.length (.slice Ao n2 co) (iws (outV F.vs i)) wr) (fun _ s95 _ => 8 - (intOf s95).toNat)
                  case atStart => exact ⟨0, 0, none, 0, rfl, rfl, by omega, Lib.hid rfl, hge, hI2⟩
                  case round =>
                    clear hI2 hge
                    obtain ⟨i, n2, Ao, co, rfl, rfl, hi8, hn2, hge, hI⟩ := hrel
                    by_cases hlt : i < 8
                    · have hd : (i : Int) < 8 := by omega
                      obtain ⟨wo, rfl⟩ : ∃ wo : World, wo = wr := ⟨_, rfl⟩
                      go_wp2
                      go_loopw [8, 126, 10] (fun s8 s126 s10 wr => ∃ (k n3 : Nat) (Ao : Option Addr) (co : Nat), s8 = .slice Ao n3 co ∧ s126 = .int .i64 k ∧ k ≤ 8 ∧ Hid (n3 = 8 * i + k) ∧ w.heap.size + 1 ≤ wr.heap.size ∧ SI w alg F (.slice Ar r cr) m.length (.slice Ao n3 co) (iws (outV F.vs i ++ (List.range k).map (byteV F.vs i))) wr) (fun _ s126 _ _ => 8 - (intOf s126).toNat)
                      case atStart => exact ⟨0, n2, Ao, co, rfl, rfl, by omega, Lib.hid (by have := hn2.out; omega), hge, by simpa using hI⟩
                      case round =>
                        clear hI hge
                        obtain ⟨k, n3, Ai, ci, rfl, rfl, hk8, hn3, hge, hI⟩ := hrel
                        have hl8 : (iws (outV F.vs i ++ (List.range k).map (byteV F.vs i))).length = n3 := by rw [iws_length, List.length_append, outV_length _ _ (by rw [hI.h.lv]; omega), List.length_map, List.length_range]; exact hn3.out.symm
                        have HL8 := Lib.hid hl8
                        clear hl8
                        have hn90 : n3 ≤ 90 := by have := hn3.out; omega
                        by_cases hlk : k < 8
                        · have hdk : (k : Int) < 8 := by omega
                          have ci_ := hI.h.cv i hlt
                          go_wp2_with (refine wpList_ap1n (w.heap.size + 1) .u8 rfl _ _ 31 5 1 (by rfl) Tryd.underlying31 info_u8 (by decide) (.slice Ai n3 ci) _ _ (by rfl) (by rfl) hI.o n3 HL8.out (by omega) (by omega) (n3 + 1) rfl ?_; intro Au cu wu hOu hgu; have hIu := hI.ap hOu hgu)
                          go_roundw
                          case rel =>
                            refine ⟨k + 1, n3 + 1, Au, cu, rfl, by go_num, by omega, Lib.hid (by have := hn3.out; omega), Nat.le_trans hge hgu.size, ?_⟩
                            rw [byteV_succ]; exact hIu
                          case measure => simp [intOf]; omega
                        · obtain rfl : k = 8 := by omega
                          have hdk : ¬ (8 : Int) < 8 := by omega
                          go_wp2
                          go_roundw
                          case rel =>
                            refine ⟨i + 1, n3, Ai, ci, rfl, by go_num, by omega, Lib.hid (by have := hn3.out; omega), hge, ?_⟩
                            rw [outV_succ F.vs i (by rw [hI.h.lv]; exact hlt)]; exact hI
                          case measure => simp [intOf]; omega
                    · obtain rfl : i = 8 := by omega
                      have c0' := (hI.b.cell (p := ⟨g, 0, none⟩) hgl).trans c0
                      have c17' := (hI.b.cell (p := ⟨g, 17, none⟩) hgl).trans c17
                      go_wp2_with fail
                      refine (sizef_calls alg _).mono ?_
                      rintro e w9 ⟨rfl, rfl⟩
                      obtain ⟨hz0, hz1⟩ := sizeN_le128 alg h0 h4 hS
                      have hn8 := hn2.out
                      obtain ⟨A9, c9, e9, hle9, _, _, _⟩ := hI.o.rd
                      have hlo : (iws (outV F.vs 8)).length = n2 := by rw [iws_length, outV_length _ _ (by rw [hI.h.lv]; omega)]; omega
                      rw [hlo] at e9 hle9
                      obtain ⟨rfl, _, rfl⟩ := Value.slice.inj e9
                      clear e9
                      have hs9 := cut_to (P := Tryd.prog) 31 5 Tryd.underlying31 info_u8 Ao n2 co .i64 (sizeN alg) hz0 (by omega)
                      have HLO := Lib.hid hlo
                      have HN8 := Lib.hid hn8
                      clear hlo hn8 hle9
                      go_wp2
                      go_ret
                      refine ⟨_, rfl, ?_, hI.b⟩
                      rw [hash_eq128 alg m hS HRN.out HL.out HT.out HNL.out HQ.out HF.out hI.h.lv, ← iws_take]
                      exact (hI.o.mono (Nat.le_succ _)).take HLO.out (by have := HN8.out; omega)


    · have hq : ¬ ((n : Int) % 128 = 120) := by omega
      go_wp2_with (refine wpList_ap1n (w.heap.size + 1) .u8 rfl _ _ 31 5 1 (by rfl) Tryd.underlying31 info_u8 (by decide) (.slice At n ct) _ 0 (by rfl) (by rfl) hI.o n HKL.out (by omega) (by have := HS1.out; omega) (n + 1) rfl ?_; intro Au cu wu hOu hgu; have hIu := hI.ap hOu hgu)
      go_roundw
      case rel =>
        refine ⟨n + 1, Au, cu, rfl, k + 1, Lib.hid (by have := hk.out; omega), by omega, Nat.le_trans hge hgu.size, ?_⟩
        have e : iws (rest alg m ++ 0x80#8 :: List.replicate (k + 1) 0#8) = iws (rest alg m ++ 0x80#8 :: List.replicate k 0#8) ++ [0] := by
          rw [List.replicate_succ']; simp [iws, iw]
        rw [e]; exact hIu
      case measure => simp [sliceLen]; omega
end Go.Proofs.YtdncmmipopdhbaaDoor.Sha
end
