/-
  Parts of the walks and of the plain laws below the statement (Sm). Texts named F.. are what the kit's print writes for one function each, through a program of mine that hands it contracts of the functions that it does not take.
-/
import Derived.Test.YtdncmmipopdhbaaDoorCk7
section
/-
  Walk: (*digest.Hash).Sum (written by wip/gen/sm.py).
-/
set_option linter.unusedVariables false
set_option linter.unusedSimpArgs false
namespace Go.Proofs.YtdncmmipopdhbaaDoor.Sha
open Go.RowKit Go.Proofs.YtdncmmipopdhbaaDoor.K

/-- How many bytes 0 fill a message up. -/
def zer (S r : Nat) : Nat := if r + 9 + (if S = 64 then 0 else 8) ≤ S then S - 9 - r else 2 * S - 9 - r
/-- The eight bytes of a message's length. -/
def lenB (n : Nat) (i : Nat) : BitVec 8 := BitVec.ofNat 8 (8 * n / 2 ^ (56 - 8 * i))
theorem lenB_iw (n i : Nat) : iw (lenB n i) = 8 * (n : Int) / 2 ^ (56 - 8 * i) % 256 := by
  simp [iw, lenB]
theorem lenB_succ (L : Bytes) (n i : Nat) : iws (L ++ (List.range (i + 1)).map (lenB n)) = iws (L ++ (List.range i).map (lenB n)) ++ [8 * (n : Int) / 2 ^ (56 - 8 * i) % 256] := by
  rw [List.range_succ, List.map_append, ← List.append_assoc, iws_append (L ++ _), ← lenB_iw]; rfl
/-- What fills a message up. -/
def fillB (alg : Int) (m : Bytes) : Bytes := 0x80#8 :: (List.replicate (zer (blkN alg) (rest alg m).length) 0#8 ++ (List.range 8).map (lenB m.length))
/-- A state's bytes. -/
def outB (alg : Int) (s : St) : Bytes := if blkN alg = 64 then s.ws.flatMap (fun x : BitVec 32 => (List.range 4).map fun k => (x >>> (24 - 8 * k)).setWidth 8) else s.vs.flatMap (fun x : BitVec 64 => (List.range 8).map fun k => (x >>> (56 - 8 * k)).setWidth 8)
/-- The digest. -/
def hashOf (alg : Int) (m : Bytes) : Bytes := (outB alg (absN alg (state alg m) (rest alg m ++ fillB alg m) ((rest alg m ++ fillB alg m).length / blkN alg))).take (sizeN alg).toNat
/-- In the midst of Sum: the copy of the struct; a row that the call owns. -/
structure SI (w0 : World) (alg : Int) (s : St) (rv : Value) (n : Int) (v : Value) (l : List Int) (wr : World) : Prop where
  h : HAt wr w0.heap.size alg s.ws s.vs rv n
  o : Own wr (w0.heap.size + 1) .u8 5 v l
  b : Below w0.heap.size w0 wr
theorem SI.ap {w0 wr wr' : World} {alg n : Int} {s : St} {rv v v' : Value} {l l' : List Int} (h : SI w0 alg s rv n v l wr) (ho : Own wr' (w0.heap.size + 1) .u8 5 v' l') (hg : wr.grownBy wr' v.ownBlock) : SI w0 alg s rv n v' l' wr' :=
  ⟨h.h.grown hg (fun e => by have := h.o.base_le _ e.symm; omega), ho, below_grown h.b hg h.b.size (fun b hb => by have := h.o.base_le _ hb; omega)⟩
theorem SI.mix {w0 wr wr' : World} {alg n : Int} {s s' : St} {rv v : Value} {l : List Int} (h : SI w0 alg s rv n v l wr) (hH : HAt wr' w0.heap.size alg s'.ws s'.vs rv n) (hg : wr.grownBy wr' (some w0.heap.size)) : SI w0 alg s' rv n v l wr' :=
  ⟨hH, h.o.kept hg (.inr (fun e => by have := h.o.base_le _ e; omega)), below_grown h.b hg h.b.size (fun b hb => by cases hb; exact Nat.le_refl _)⟩
def outW (ws : List (BitVec 32)) (i : Nat) : Bytes := (ws.take i).flatMap (fun x : BitVec 32 => (List.range 4).map fun k => (x >>> (24 - 8 * k)).setWidth 8)
theorem outW_succ (ws : List (BitVec 32)) (i : Nat) (hi : i < ws.length) : outW ws (i + 1) = outW ws i ++ (List.range 4).map fun k => ((ws[i]?.getD 0#32) >>> (24 - 8 * k)).setWidth 8 := by
  unfold outW
  rw [List.take_succ_eq_append_getElem hi, List.flatMap_append, List.getElem?_eq_getElem hi]
  simp
theorem outW_length (ws : List (BitVec 32)) : ∀ i, i ≤ ws.length → (outW ws i).length = 4 * i
  | 0, _ => rfl
  | i + 1, h => by rw [outW_succ ws i (by omega), List.length_append, outW_length ws i (by omega)]; simp; omega
theorem bytes4 (x : BitVec 32) : iws ((List.range 4).map fun k => (x >>> (24 - 8 * k)).setWidth 8) = [IntKind.u8.wrap (iw x / 16777216), IntKind.u8.wrap (iw x / 65536), IntKind.u8.wrap (iw x / 256), IntKind.u8.wrap (iw x)] := by
  simp [iws, iw, List.range, List.range.loop, IntKind.wrap_u8, Nat.shiftRight_eq_div_pow]
theorem sizeN_le64 (alg : Int) (h0 : 1 ≤ alg) (h4 : alg ≤ 4) (hS : blkN alg = 64) : 0 ≤ sizeN alg ∧ sizeN alg ≤ 32 := by
  obtain rfl | rfl | rfl | rfl : alg = 1 ∨ alg = 2 ∨ alg = 3 ∨ alg = 4 := by omega
  · decide
  · decide
  · exact absurd hS (by decide)
  · exact absurd hS (by decide)
theorem hash_eq64 (alg : Int) (m : Bytes) {r n' j : Nat} {L tl : Bytes} {F : St} (hS : blkN alg = 64) (hr : (rest alg m).length = r) (hL : rest alg m ++ 0x80#8 :: List.replicate (zer 64 r) 0#8 = L)
    (hT : L ++ List.map (lenB m.length) (List.range 8) = tl) (hn : (iws tl).length = n') (hq : n' = 64 * j) (hF : absN alg (state alg m) tl j = F) (hw : F.ws.length = 8) : hashOf alg m = (outW F.ws 8).take (sizeN alg).toNat := by
  have e : rest alg m ++ fillB alg m = tl := by rw [← hT, ← hL, fillB, hS, hr]; simp
  rw [iws_length] at hn
  unfold hashOf
  rw [e, hn, hS, hq, Nat.mul_div_cancel_left _ (by omega), hF, outB, if_pos hS, outW, show F.ws.take 8 = F.ws from List.take_of_length_le (by omega)]
theorem info_hash : (Tryd.prog.info? 137).map (·.size) = some 19 := by kernel_rfl
theorem hcells_size {alg n : Int} {ws : List (BitVec 32)} {vs : List (BitVec 64)} {rv : Value} (h1 : ws.length = 8) (h2 : vs.length = 8) : (hcells alg ws vs rv n).toArray.size = 19 := by simp [hcells, h1, h2]
theorem hcells_one (alg : Int) (ws : List (BitVec 32)) (vs : List (BitVec 64)) (A : Option Addr) (l c : Nat) (n : Int) : (hcells alg ws vs (.slice A l c) n).toArray.all (·.oneCell') = true := by
  refine Array.all_eq_true_iff_forall_mem.2 (fun v hv => ?_)
  simp only [hcells, List.mem_toArray, List.mem_cons, List.mem_append, nums, List.mem_map] at hv
  rcases hv with rfl | ⟨x, _, rfl⟩ | ⟨x, _, rfl⟩ | rfl | rfl | h
  all_goals first | rfl | exact absurd h (by simp)
theorem sizeN_ne (alg : Int) (h0 : 1 ≤ alg) (h4 : alg ≤ 4) : ¬ sizeN alg = 0 := by
  obtain rfl | rfl | rfl | rfl : alg = 1 ∨ alg = 2 ∨ alg = 3 ∨ alg = 4 := by omega
  all_goals decide
set_option maxHeartbeats 8000000 in
set_option maxRecDepth 100000 in
theorem sum64_calls (g base : Nat) (alg : Int) (m : Bytes) (h0 : 1 ≤ alg) (h4 : alg ≤ 4) (hS : blkN alg = 64) (w : World) (hm : HM w g base alg m) (hK : KAt w) (hbase : base ≤ w.heap.size) (hlen : m.length ≤ 16777216) :
    Calls Tryd.prog 79 #[.pointer (some ⟨g, 0, none⟩)] w fun e w' => ∃ v, e = .returned v ∧ Own w' w.heap.size .u8 5 v (iws (hashOf alg m)) ∧ Below w.heap.size w w' := by
  obtain ⟨rv, hH, hO, hne⟩ := hm.out
  obtain ⟨Ar, cr, rfl, hcr, hcr2, hAr, hRr⟩ := hO.rd
  rw [iws_length] at hcr hH hne
  have hrl := rest_lt alg m
  rw [hS] at hrl
  have hgl := hH.lt
  have c0 := hH.c0
  have c17 := hH.c17
  have c18 := hH.c18
  have hsz := sizeN_ne alg h0 h4
  clear hm
  go_enter Tryd.func79, Tryd.ntmps79
  go_wp2_with fail
  refine (sizef_calls alg _).mono ?_
  rintro e w1 ⟨rfl, rfl⟩
  have hcl : (hcells alg (state alg m).ws (state alg m).vs (.slice Ar (rest alg m).length cr) m.length).toArray.size = 19 := hcells_size hH.lw hH.lv
  have hi := info_hash
  rw [← hcl] at hi
  have HI := Lib.hid hi
  have H1 := Lib.hid (hcells_one alg (state alg m).ws (state alg m).vs Ar (rest alg m).length cr m.length)
  have HO := Lib.hid hH.out
  have HC := Lib.hid hcl
  clear hi hcl
  go_wp2_with (first | (refine wpList_load_row rfl 137 _ rfl g rfl _ _ _ _ HO.out Tryd.underlying137 rfl HI.out ?_) | (refine wpList_store_new rfl 137 _ _ rfl _ rfl rfl _ _ HI.out HC.out.symm H1.out ?_))
  have hH1 : HAt (w.alloc (.cells (hcells alg (state alg m).ws (state alg m).vs (.slice Ar (rest alg m).length cr) m.length).toArray 137)) w.heap.size alg (state alg m).ws (state alg m).vs (.slice Ar (rest alg m).length cr) m.length := ⟨heap_alloc_new _ _, hH.lw, hH.lv⟩
  have hb1 : Below w.heap.size w (w.alloc (.cells (hcells alg (state alg m).ws (state alg m).vs (.slice Ar (rest alg m).length cr) m.length).toArray 137)) := below_alloc (Below.refl _ _) _
  have hs1 : (w.alloc (.cells (hcells alg (state alg m).ws (state alg m).vs (.slice Ar (rest alg m).length cr) m.length).toArray 137)).heap.size = w.heap.size + 1 := by simp
  clear HI H1 HO HC
  generalize hw1 : (w.alloc (.cells (hcells alg (state alg m).ws (state alg m).vs (.slice Ar (rest alg m).length cr) m.length).toArray 137)) = w1 at *
  have hR1 := hRr.below hb1
  have c17 := hb1.cell (p := ⟨g, 17, none⟩) hgl |>.trans c17
  have hI1 : SI w alg (state alg m) (.slice Ar (rest alg m).length cr) m.length (.slice none 0 0) [] w1 := ⟨hH1, Own.nil _ _ _ _, hb1⟩
  have HS1 := Lib.hid hs1
  clear hw1 hs1 hb1 hH1
  have hr64 : (iws (rest alg m)).length = (rest alg m).length := iws_length _
  have HR64 := Lib.hid hr64
  clear hr64
  generalize hrn : (rest alg m).length = r at *
  have HRN := Lib.hid hrn
  clear hrn
  obtain ⟨T, hT1, hT2, hT3, hT4⟩ : ∃ T, r + 1 ≤ T ∧ T % 64 = 64 - 8 ∧ T < r + 1 + 64 ∧ T ≤ 2 * 64 - 8 := by
    by_cases h : r + 9 ≤ 64
    · exact ⟨64 - 8, by omega⟩
    · exact ⟨2 * 64 - 8, by omega⟩
  refine (blockf_calls alg h0 h4 _).mono ?_
  rintro e w2 ⟨rfl, rfl⟩
  rw [hS]
  go_wp2_with (first | (refine wpList_ap (w.heap.size + 1) .u8 rfl _ _ 31 5 1 (by rfl) Tryd.underlying31 info_u8 (by decide) (.slice none 0 0) [] (iws (rest alg m)) Ar r cr (by rfl) (by rfl) HR64.out hI1.o hR1 (by rw [HR64.out, List.length_nil]; omega) (by have := HS1.out; omega) r (by rw [HR64.out, List.length_nil]; omega) ?_; intro At ct wt hOt hgt _; have hIt := hI1.ap hOt hgt) | (refine wpList_ap1n (w.heap.size + 1) .u8 rfl _ _ 31 5 1 (by rfl) Tryd.underlying31 info_u8 (by decide) (.slice At r ct) (iws (rest alg m)) 128 (by rfl) (by rfl) hOt r HR64.out (by omega) (by have := hgt.size; have := HS1.out; omega) (r + 1) rfl ?_; intro Au cu wu hOu hgu; have hIu := hIt.ap hOu hgu; have hgu' : w.heap.size + 1 ≤ wu.heap.size := (by have := hgt.size; have := hgu.size; have := HS1.out; omega)))
  clear hIt hI1 hgt hgu hOt hOu hR1 c17
  go_loopw [5] (fun s5 wr => ∃ (n : Nat) (At : Option Addr) (ct : Nat), s5 = .slice At n ct ∧ ∃ k, Hid (r + 1 + k = n) ∧ n ≤ T ∧ w.heap.size + 1 ≤ wr.heap.size ∧ SI w alg (state alg m) (.slice Ar r cr) m.length (.slice At n ct) (iws (rest alg m ++ 0x80#8 :: List.replicate k 0#8)) wr) (fun s5 _ => T - sliceLen s5)
  case atStart => exact ⟨r + 1, Au, cu, rfl, 0, Lib.hid rfl, hT1, hgu', by simpa [iws, iw] using hIu⟩
  case round =>
    clear hIu
    obtain ⟨n, At, ct, rfl, k, hk, hnT, hge, hI⟩ := hrel
    have hn1 : r + 1 ≤ n := by have := hk.out; omega
    have hkl : (iws (rest alg m ++ 0x80#8 :: List.replicate k 0#8)).length = n := by rw [iws_length, List.length_append, List.length_cons, List.length_replicate, HRN.out]; have := hk.out; omega
    have HKL := Lib.hid hkl
    clear hkl
    by_cases hlt : n = T
    · have hq : (n : Int) % 64 = 56 := by omega
      have hz : k = zer 64 r := by have := hk.out; unfold zer; simp only [if_true]; split <;> omega
      subst hz
      clear hk
      generalize hL : rest alg m ++ 0x80#8 :: List.replicate (zer 64 r) 0#8 = L at *
      have HL := Lib.hid hL
      have hnT' : n % 64 = 56 := by omega
      clear hL hlt hcr hcr2 hAr hT1 hT2 hT3
      have c18' := (hI.b.cell (p := ⟨g, 18, none⟩) hgl).trans c18
      have c17' := (hI.b.cell (p := ⟨g, 17, none⟩) hgl).trans c17
      go_wp2
      try simp only [hq]
      clear hq
      go_loopw [5, 63] (fun s5 s63 wr => ∃ (i : Nat) (n' : Nat) (At : Option Addr) (ct : Nat), s5 = .slice At n' ct ∧ s63 = .int .i64 i ∧ i ≤ 8 ∧ Hid (n + i = n') ∧ w.heap.size + 1 ≤ wr.heap.size ∧ SI w alg (state alg m) (.slice Ar r cr) m.length (.slice At n' ct) (iws (L ++ (List.range i).map (lenB m.length))) wr) (fun _ s63 _ => 8 - (intOf s63).toNat)
      case atStart => exact ⟨0, n, At, ct, rfl, rfl, by omega, Lib.hid rfl, hge, by simpa using hI⟩
      case round =>
        clear hI c18' c17' hge
        obtain ⟨i, n', At2, ct2, rfl, rfl, hi8, hn', hge, hI⟩ := hrel
        have c18' := (hI.b.cell (p := ⟨g, 18, none⟩) hgl).trans c18
        have hnl : (iws (L ++ (List.range i).map (lenB m.length))).length = n' := by rw [iws_length, List.length_append, List.length_map, List.length_range]; rw [iws_length] at HKL; have := hn'.out; have := HKL.out; omega
        have HNL := Lib.hid hnl
        clear hnl
        have hn9 : n' ≤ 300 := by have := hn'.out; omega
        by_cases hlt : i < 8
        · have hd : (i : Int) < 8 := by omega
          go_wp2_with (refine wpList_ap1n (w.heap.size + 1) .u8 rfl _ _ 31 5 1 (by rfl) Tryd.underlying31 info_u8 (by decide) (.slice At2 n' ct2) _ _ (by rfl) (by rfl) hI.o n' HNL.out (by omega) (by omega) (n' + 1) rfl ?_; intro Au cu wu hOu hgu; have hIu := hI.ap hOu hgu)
          go_roundw
          case rel =>
            refine ⟨i + 1, n' + 1, Au, cu, rfl, by go_num, by omega, Lib.hid (by have := hn'.out; omega), Nat.le_trans hge hgu.size, ?_⟩
            rw [lenB_succ]; exact hIu
          case measure => simp [intOf]; omega
        · obtain rfl : i = 8 := by omega
          clear c18' hi8 hlt
          obtain ⟨q, hq0⟩ : ∃ q, n' = 64 * q := ⟨n' / 64, by have := hn'.out; omega⟩
          have HQ := Lib.hid hq0
          generalize hT : L ++ List.map (lenB m.length) (List.range 8) = tl at *
          have HT := Lib.hid hT
          clear hT hn' hq0
          go_wp2
          go_loopw [7] (fun s7 wr => ∃ (j p : Nat), s7 = .int .i64 p ∧ Hid (p = 64 * j) ∧ j ≤ q ∧ w.heap.size + 1 ≤ wr.heap.size ∧ SI w alg (absN alg (state alg m) tl j) (.slice Ar r cr) m.length (.slice At2 n' ct2) (iws tl) wr) (fun s7 _ => n' - (intOf s7).toNat)
          case atStart => exact ⟨0, 0, rfl, Lib.hid rfl, Nat.zero_le _, hge, hI⟩
          case round =>
            clear hI hge
            obtain ⟨j, p, rfl, hp, hjq, hge, hI⟩ := hrel
            have hp1 := hp.out
            have hq1 := HQ.out
            by_cases hlt : j < q
            · have hd : (p : Int) < (n' : Int) := by omega
              obtain ⟨A9, c9, e9, hle9, h639, hAo, hR9⟩ := hI.o.rd
              rw [HNL.out] at e9 hle9
              obtain ⟨rfl, _, rfl⟩ := Value.slice.inj e9
              clear e9 hAo
              obtain ⟨A3, hs3, hr3, ha3⟩ := cut_mid (P := Tryd.prog) 31 5 Tryd.underlying31 info_u8 At2 n' ct2 .i64 .i64 (p : Int) ((p : Int) + 64) (by omega) (by omega) (by omega) hle9
              have e1 : ((p : Int) + 64).toNat - ((p : Int)).toNat = 64 := by omega
              rw [e1, Int.toNat_natCast] at hs3
              rw [e1, Int.toNat_natCast] at hr3
              have HR3 := Lib.hid hr3
              clear hr3 ha3 e1 hp1 hq1
              go_wp2_with fail
              have hl : ((tl.drop p).take 64).length = 64 := by rw [List.length_take, List.length_drop]; have := HNL.out; rw [iws_length] at this; have := hp.out; have := HQ.out; omega
              have hR3 := HR3.out wr .u8 (iws tl) HNL.out hR9
              rw [iws_drop, iws_take] at hR3
              have bc := block_calls w.heap.size alg m.length (absN alg (state alg m) tl j).ws (absN alg (state alg m) tl j).vs (.slice Ar r cr) A3 (ct2 - p) ((tl.drop p).take 64) wr hI.h hR3 (by rw [hl, hS]; exact Nat.le_refl _) (hK.below hI.b)
              rw [hl] at bc
              refine bc.mono ?_
              rintro e w3 ⟨rfl, hH3, hg3⟩
              clear bc hl hR3
              have hge3 := Nat.le_trans hge hg3.size
              have hI3 := hI.mix (s' := mixB alg (absN alg (state alg m) tl j) ((tl.drop p).take 64)) hH3 hg3
              have em : mixB alg (absN alg (state alg m) tl j) ((tl.drop p).take 64) = absN alg (state alg m) tl (j + 1) := by rw [absN, hS, hp.out, Nat.mul_comm]
              rw [em] at hI3
              have HP := Lib.hid hlt
              clear em hI hH3 hg3
              go_wp2
              go_roundw
              case rel =>
                (repeat apply Exists.intro); refine ⟨?rel2, rfl⟩
                exact ⟨j + 1, p + 64, by go_num, Lib.hid (by have := hp.out; omega), HP.out, hge3, hI3⟩
              case measure => simp [intOf]; have := HP.out; have := HQ.out; have := hp.out; omega
            · obtain rfl : j = q := by omega
              have hd : ¬ (p : Int) < (n' : Int) := by omega
              clear hp1 hq1 hlt hjq
              go_wp2
              have hI2 : SI w alg (absN alg (state alg m) tl j) (.slice Ar r cr) m.length (.slice none 0 0) [] wr := ⟨hI.h, Own.nil _ _ _ _, hI.b⟩
              clear hI hd
              generalize hF : absN alg (state alg m) tl j = F at *
              have HF := Lib.hid hF
              clear hF
              go_loopw [8, 95] (fun s8 s95 wr => ∃ (i n2 : Nat) (Ao : Option Addr) (co : Nat), s8 = .slice Ao n2 co ∧ s95 = .int .i64 i ∧ i ≤ 8 ∧ Hid (n2 = 4 * i) ∧ w.heap.size + 1 ≤ wr.heap.size ∧ SI w alg F (.slice Ar r cr) m.length (.slice Ao n2 co) (iws (outW F.ws i)) wr) (fun _ s95 _ => 8 - (intOf s95).toNat)
              case atStart => exact ⟨0, 0, none, 0, rfl, rfl, by omega, Lib.hid rfl, hge, hI2⟩
              case round =>
                clear hI2 hge
                obtain ⟨i, n2, Ao, co, rfl, rfl, hi8, hn2, hge, hI⟩ := hrel
                by_cases hlt : i < 8
                · have hd : (i : Int) < 8 := by omega
                  have ci := hI.h.cw i hlt
                  have ciA : ∀ o : Obj, (wr.drew.alloc o).cell? ⟨w.heap.size, 1 + i, none⟩ = some (.int .u32 (iw (F.ws[i]?.getD 0#32))) := fun o => cell_below (below_alloc (Below.refl _ _) o) (show wr.drew.cell? _ = _ from ci)
                  have CIA := Lib.hid ciA
                  have hl4 : (iws (outW F.ws i)).length = n2 := by rw [iws_length, outW_length _ _ (by rw [hI.h.lw]; omega)]; exact hn2.out.symm
                  have HL4 := Lib.hid hl4
                  clear ciA hl4
                  have hn40 : n2 ≤ 40 := by have := hn2.out; omega
                  go_wp2_with fail
                  go_region_held3 (fun w' => w'.cell? ⟨w.heap.size, 1 + i, none⟩ = some (.int .u32 (iw (F.ws[i]?.getD 0#32)))) (first | exact ci | exact CIA.out _ | exact ci') ((refine step_ap (w.heap.size + 1) .u8 rfl _ _ 31 5 1 (by rfl) Tryd.underlying31 info_u8 (by decide) (.slice Ao n2 co) (iws (outW F.ws i)) _ _ 4 4 (by rfl) (by rfl) rfl (by exact (hI.o.drewN 1).alloc _) (by exact rd_new4 _ _ _ _ _ _ _) (by rw [HL4.out]; simp; omega) (by simp; omega) (n2 + 4) (by rw [HL4.out]; rfl) ?_; intro Au cu wu hOu hgu _; have ci' := hgu.cell (CIA.out _) (fun e => by have : w.heap.size + 1 ≤ w.heap.size := hI.o.base_le _ e.symm; omega)))
                  go_wp2
                  go_roundw
                  case rel =>
                    have hg' : wr.grownBy wu (Value.slice Ao n2 co).ownBlock := grown_of_alloc ⟨hgu.os, hgu.tape, hgu.output, hgu.size, hgu.block⟩
                    refine ⟨i + 1, n2 + 4, Au, cu, rfl, by go_num, by omega, Lib.hid (by have := hn2.out; omega), Nat.le_trans hge hg'.size, ?_⟩
                    rw [outW_succ F.ws i (by rw [hI.h.lw]; exact hlt), iws_append, bytes4]; exact hI.ap hOu hg'
                  case measure => simp [intOf]; omega
                · obtain rfl : i = 8 := by omega
                  have c0' := (hI.b.cell (p := ⟨g, 0, none⟩) hgl).trans c0
                  have c17' := (hI.b.cell (p := ⟨g, 17, none⟩) hgl).trans c17
                  go_wp2_with fail
                  refine (sizef_calls alg _).mono ?_
                  rintro e w9 ⟨rfl, rfl⟩
                  obtain ⟨hz0, hz1⟩ := sizeN_le64 alg h0 h4 hS
                  have hn8 := hn2.out
                  obtain ⟨A9, c9, e9, hle9, _, _, _⟩ := hI.o.rd
                  have hlo : (iws (outW F.ws 8)).length = n2 := by rw [iws_length, outW_length _ _ (by rw [hI.h.lw]; omega)]; omega
                  rw [hlo] at e9 hle9
                  obtain ⟨rfl, _, rfl⟩ := Value.slice.inj e9
                  clear e9
                  have hs9 := cut_to (P := Tryd.prog) 31 5 Tryd.underlying31 info_u8 Ao n2 co .i64 (sizeN alg) hz0 (by omega)
                  have HLO := Lib.hid hlo
                  have HN8 := Lib.hid hn8
                  clear hlo hn8 hle9
                  go_wp2
                  go_ret
                  refine ⟨_, rfl, ?_, hI.b⟩
                  rw [hash_eq64 alg m hS HRN.out HL.out HT.out HNL.out HQ.out HF.out hI.h.lw, ← iws_take]
                  exact (hI.o.mono (Nat.le_succ _)).take HLO.out (by have := HN8.out; omega)

    · have hq : ¬ ((n : Int) % 64 = 56) := by omega
      go_wp2_with (refine wpList_ap1n (w.heap.size + 1) .u8 rfl _ _ 31 5 1 (by rfl) Tryd.underlying31 info_u8 (by decide) (.slice At n ct) _ 0 (by rfl) (by rfl) hI.o n HKL.out (by omega) (by have := HS1.out; omega) (n + 1) rfl ?_; intro Au cu wu hOu hgu; have hIu := hI.ap hOu hgu)
      go_roundw
      case rel =>
        refine ⟨n + 1, Au, cu, rfl, k + 1, Lib.hid (by have := hk.out; omega), by omega, Nat.le_trans hge hgu.size, ?_⟩
        have e : iws (rest alg m ++ 0x80#8 :: List.replicate (k + 1) 0#8) = iws (rest alg m ++ 0x80#8 :: List.replicate k 0#8) ++ [0] := by
          rw [List.replicate_succ']; simp [iws, iw]
        rw [e]; exact hIu
      case measure => simp [sliceLen]; omega
end Go.Proofs.YtdncmmipopdhbaaDoor.Sha
end
