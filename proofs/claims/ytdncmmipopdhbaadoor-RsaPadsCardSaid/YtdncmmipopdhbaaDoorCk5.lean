/-
  Parts of the walks and of the plain laws below the statement (Hs, Blk, Msg, Ap). Texts named F.. are what the kit's print writes for one function each, through a program of mine that hands it contracts of the functions that it does not take.
-/
import Derived.Test.YtdncmmipopdhbaaDoorCk4
import Derived.Deep.MidRow
import Derived.Deep.Upon
import Derived.Test.YtdncmmipopdhbaaDoorCk1
import Derived.Maps.AppendAt
import Derived.Deep.AppendLies
import Derived.Laws.MakeOwn
section
/-
  The struct digest.Hash in memory: its cells, what is written into them.
-/
set_option linter.unusedVariables false
set_option linter.unusedSimpArgs false
namespace Go.Proofs.YtdncmmipopdhbaaDoor.Sha
open Go.RowKit Go.Proofs.YtdncmmipopdhbaaDoor.K

/-- Cells stored into the middle of a block that is known whole. -/
theorem setCells_list {g T : Nat} : ∀ (vs pre mid post : List Value) (w : World), mid.length = vs.length → w.heap[g]? = some (.cells (pre ++ (mid ++ post)).toArray T (0, 0)) →
    (w.setCells g pre.length vs).heap[g]? = some (.cells (pre ++ (vs ++ post)).toArray T (0, 0))
  | [], pre, mid, post, w, hl, h => by
    obtain rfl : mid = [] := List.eq_nil_of_length_eq_zero hl
    exact h
  | v :: vs, pre, mid, post, w, hl, h => by
    match mid, hl with
    | m :: mid, hl =>
      rw [World.setCells]
      have h1 := blk_set h pre.length v
      have e : ((pre ++ (m :: mid ++ post)).toArray.setIfInBounds pre.length v) = ((pre ++ [v]) ++ (mid ++ post)).toArray := by
        rw [List.setIfInBounds_toArray]
        congr 1
        simp
      rw [e] at h1
      have := setCells_list vs (pre ++ [v]) mid post _ (by simpa using hl) h1
      simpa using this
theorem setCells_keep (g : Nat) : ∀ (vs : List Value) (o : Nat) (w : World), (w.setCells g o vs).os = w.os ∧ (w.setCells g o vs).tape = w.tape ∧ (w.setCells g o vs).output = w.output ∧ (w.setCells g o vs).heap.size = w.heap.size
  | [], _, _ => ⟨rfl, rfl, rfl, rfl⟩
  | v :: vs, o, w => by
    obtain ⟨a, b, c, d⟩ := setCells_keep g vs (o + 1) (w.setCell ⟨g, o, none⟩ v)
    rw [World.setCells]
    exact ⟨a, b, c, by rw [d]; simp⟩
theorem setCells_far (g : Nat) : ∀ (vs : List Value) (o : Nat) (w : World) (k : Nat), k ≠ g → (w.setCells g o vs).heap[k]? = w.heap[k]?
  | [], _, _, _, _ => rfl
  | v :: vs, o, w, k, hk => by
    rw [World.setCells, setCells_far g vs (o + 1) _ k hk]
    exact Below.heap_setCell w _ v k hk
theorem setCells_grown (g o : Nat) (vs : List Value) (w : World) : w.grownBy (w.setCells g o vs) (some g) :=
  ⟨(setCells_keep g vs o w).1, (setCells_keep g vs o w).2.1, (setCells_keep g vs o w).2.2.1, by rw [(setCells_keep g vs o w).2.2.2]; exact Nat.le_refl _, fun k _ hk => setCells_far g vs o w k (fun e => hk (by rw [e]))⟩
theorem setCell_grown (g o : Nat) (v : Value) (w : World) : w.grownBy (w.setCell ⟨g, o, none⟩ v) (some g) :=
  ⟨rfl, rfl, rfl, by simp, fun k _ hk => Below.heap_setCell w _ v k (fun e => hk (by rw [e]))⟩
theorem grown_drew {w w' : World} {row : Option Nat} (h : w.grownBy w' row) : w.grownBy w'.drew row := ⟨h.os, h.tape, h.output, h.size, h.block⟩
theorem grown_drewN {w w' : World} {row : Option Nat} (h : w.grownBy w' row) (n : Nat) : w.grownBy (w'.drewN n) row := ⟨h.os, h.tape, h.output, h.size, h.block⟩
theorem grown_refl (w : World) (row : Option Nat) : w.grownBy w row := ⟨rfl, rfl, rfl, Nat.le_refl _, fun _ _ _ => rfl⟩
theorem grown_trans {a b c : World} {row : Option Nat} (h : a.grownBy b row) (k : b.grownBy c row) : a.grownBy c row :=
  ⟨k.os.trans h.os, k.tape.trans h.tape, k.output.trans h.output, Nat.le_trans h.size k.size, fun i hi hr => (k.block i (Nat.lt_of_lt_of_le hi h.size) hr).trans (h.block i hi hr)⟩

def hcells (alg : Int) (ws : List (BitVec 32)) (vs : List (BitVec 64)) (rv : Value) (n : Int) : List Value :=
  .int .i64 alg :: (nums .u32 (iws ws) ++ (nums .u64 (iws vs) ++ [rv, .int .i64 n]))
structure HAt (w : World) (g : Nat) (alg : Int) (ws : List (BitVec 32)) (vs : List (BitVec 64)) (rv : Value) (n : Int) : Prop where
  out : w.heap[g]? = some (.cells (hcells alg ws vs rv n).toArray 137 (0, 0))
  lw : ws.length = 8
  lv : vs.length = 8
section
variable {w w' : World} {g : Nat} {alg n : Int} {ws : List (BitVec 32)} {vs : List (BitVec 64)} {rv : Value}
theorem HAt.c0 (h : HAt w g alg ws vs rv n) : w.cell? ⟨g, 0, none⟩ = some (.int .i64 alg) := by rw [blk_cell h.out]; rfl
theorem HAt.c17 (h : HAt w g alg ws vs rv n) : w.cell? ⟨g, 17, none⟩ = some rv := by
  rw [blk_cell h.out, List.getElem?_toArray, hcells, List.getElem?_cons_succ, List.getElem?_append_right (by simp [h.lw]), List.getElem?_append_right (by simp [h.lw, h.lv])]
  simp [h.lw, h.lv]
theorem HAt.c18 (h : HAt w g alg ws vs rv n) : w.cell? ⟨g, 18, none⟩ = some (.int .i64 n) := by
  rw [blk_cell h.out, List.getElem?_toArray, hcells, List.getElem?_cons_succ, List.getElem?_append_right (by simp [h.lw]), List.getElem?_append_right (by simp [h.lw, h.lv])]
  simp [h.lw, h.lv]
theorem HAt.cw (h : HAt w g alg ws vs rv n) (i : Nat) (hi : i < 8) : w.cell? ⟨g, 1 + i, none⟩ = some (.int .u32 (iw (ws[i]?.getD 0#32))) := by
  rw [blk_cell h.out, List.getElem?_toArray, hcells, Nat.add_comm, List.getElem?_cons_succ, List.getElem?_append_left (by simp [h.lw]; omega), nums_get _ _ _ (by simp [h.lw]; omega), iws_getD, List.getD_eq_getElem?_getD]
theorem HAt.cv (h : HAt w g alg ws vs rv n) (i : Nat) (hi : i < 8) : w.cell? ⟨g, 9 + i, none⟩ = some (.int .u64 (iw (vs[i]?.getD 0#64))) := by
  rw [blk_cell h.out, List.getElem?_toArray, hcells, show 9 + i = (8 + i) + 1 by omega, List.getElem?_cons_succ, List.getElem?_append_right (by simp [h.lw])]
  simp only [nums_length, iws_length, h.lw, Nat.add_sub_cancel_left]
  rw [List.getElem?_append_left (by simp [h.lv]; omega), nums_get _ _ _ (by simp [h.lv]; omega), iws_getD, List.getD_eq_getElem?_getD]
theorem HAt.free (h : HAt w g alg ws vs rv n) (i : Nat) : w.frozen? ⟨g, i, none⟩ = false := blk_free h.out i
theorem HAt.lt (h : HAt w g alg ws vs rv n) : g < w.heap.size := blk_lt h.out
theorem HAt.rw_ (h : HAt w g alg ws vs rv n) : w.rangeAt g 1 (nums .u32 (iws ws)) := fun j v hv => by
  have hj : j < 8 := by have := (List.getElem?_eq_some_iff.1 hv).1; simpa [h.lw] using this
  rw [h.cw j hj, ← hv, nums_get _ _ _ (by simp [h.lw]; omega), iws_getD, List.getD_eq_getElem?_getD]
theorem HAt.rv_ (h : HAt w g alg ws vs rv n) : w.rangeAt g 9 (nums .u64 (iws vs)) := fun j v hv => by
  have hj : j < 8 := by have := (List.getElem?_eq_some_iff.1 hv).1; simpa [h.lv] using this
  rw [h.cv j hj, ← hv, nums_get _ _ _ (by simp [h.lv]; omega), iws_getD, List.getD_eq_getElem?_getD]
theorem HAt.tw (h : HAt w g alg ws vs rv n) : w.there g 1 8 := fun j hj => ⟨by rw [h.cw j hj]; rfl, h.free _⟩
theorem HAt.tv (h : HAt w g alg ws vs rv n) : w.there g 9 8 := fun j hj => ⟨by rw [h.cv j hj]; rfl, h.free _⟩
theorem HAt.set_ws (h : HAt w g alg ws vs rv n) (ws' : List (BitVec 32)) (hl : ws'.length = 8) : HAt (w.setCells g 1 (nums .u32 (iws ws'))) g alg ws' vs rv n :=
  ⟨setCells_list (nums .u32 (iws ws')) [.int .i64 alg] (nums .u32 (iws ws)) _ w (by simp [h.lw, hl]) h.out, hl, h.lv⟩
theorem HAt.set_vs (h : HAt w g alg ws vs rv n) (vs' : List (BitVec 64)) (hl : vs'.length = 8) : HAt (w.setCells g 9 (nums .u64 (iws vs'))) g alg ws vs' rv n := by
  refine ⟨?_, h.lw, hl⟩
  have := setCells_list (g := g) (nums .u64 (iws vs')) (.int .i64 alg :: nums .u32 (iws ws)) (nums .u64 (iws vs)) [rv, .int .i64 n] w (by simp [h.lv, hl]) (by simpa [hcells] using h.out)
  simpa [hcells, h.lw] using this
theorem HAt.set_rest (h : HAt w g alg ws vs rv n) (rv' : Value) : HAt (w.setCell ⟨g, 17, none⟩ rv') g alg ws vs rv' n := by
  refine ⟨?_, h.lw, h.lv⟩
  have := setCells_list (g := g) [rv'] (.int .i64 alg :: (nums .u32 (iws ws) ++ nums .u64 (iws vs))) [rv] [.int .i64 n] w rfl (by simpa [hcells] using h.out)
  simpa [hcells, h.lw, h.lv, World.setCells] using this
theorem HAt.set_n (h : HAt w g alg ws vs rv n) (n' : Int) : HAt (w.setCell ⟨g, 18, none⟩ (.int .i64 n')) g alg ws vs rv n' := by
  refine ⟨?_, h.lw, h.lv⟩
  have := setCells_list (g := g) [.int .i64 n'] (.int .i64 alg :: (nums .u32 (iws ws) ++ (nums .u64 (iws vs) ++ [rv]))) [.int .i64 n] [] w rfl (by simpa [hcells] using h.out)
  simpa [hcells, h.lw, h.lv, World.setCells] using this
theorem HAt.alloc (h : HAt w g alg ws vs rv n) (o : Obj) : HAt (w.alloc o) g alg ws vs rv n := ⟨blk_alloc h.out o, h.lw, h.lv⟩
theorem HAt.drew (h : HAt w g alg ws vs rv n) : HAt w.drew g alg ws vs rv n := ⟨h.out, h.lw, h.lv⟩
theorem HAt.drewN (h : HAt w g alg ws vs rv n) (m : Nat) : HAt (w.drewN m) g alg ws vs rv n := ⟨h.out, h.lw, h.lv⟩
theorem HAt.other (h : HAt w g alg ws vs rv n) {p : Addr} (hp : g ≠ p.block) (u : Value) : HAt (w.setCell p u) g alg ws vs rv n := ⟨blk_other h.out hp u, h.lw, h.lv⟩
theorem HAt.below (h : HAt w g alg ws vs rv n) {B : Nat} (hb : Below B w w') (hlt : g < B) : HAt w' g alg ws vs rv n := ⟨blk_below h.out hb hlt, h.lw, h.lv⟩
theorem HAt.grown (h : HAt w g alg ws vs rv n) {row : Option Nat} (hg : w.grownBy w' row) (hne : some g ≠ row) : HAt w' g alg ws vs rv n := ⟨blk_grown h.out hg hne, h.lw, h.lv⟩
end
end Go.Proofs.YtdncmmipopdhbaaDoor.Sha
end

section
/-
  Walk: (*digest.Hash).block: the state is mixed with one block.
-/
set_option linter.unusedVariables false
set_option linter.unusedSimpArgs false
namespace Go.Proofs.YtdncmmipopdhbaaDoor.Sha
open Go.RowKit Go.Proofs.YtdncmmipopdhbaaDoor.K

def K256 : List (BitVec 32) := [1116352408#32, 1899447441#32, 3049323471#32, 3921009573#32, 961987163#32, 1508970993#32, 2453635748#32, 2870763221#32, 3624381080#32, 310598401#32, 607225278#32, 1426881987#32, 1925078388#32, 2162078206#32, 2614888103#32, 3248222580#32, 3835390401#32, 4022224774#32, 264347078#32, 604807628#32, 770255983#32, 1249150122#32, 1555081692#32, 1996064986#32, 2554220882#32, 2821834349#32, 2952996808#32, 3210313671#32, 3336571891#32, 3584528711#32, 113926993#32, 338241895#32, 666307205#32, 773529912#32, 1294757372#32, 1396182291#32, 1695183700#32, 1986661051#32, 2177026350#32, 2456956037#32, 2730485921#32, 2820302411#32, 3259730800#32, 3345764771#32, 3516065817#32, 3600352804#32, 4094571909#32, 275423344#32, 430227734#32, 506948616#32, 659060556#32, 883997877#32, 958139571#32, 1322822218#32, 1537002063#32, 1747873779#32, 1955562222#32, 2024104815#32, 2227730452#32, 2361852424#32, 2428436474#32, 2756734187#32, 3204031479#32, 3329325298#32]
def K512 : List (BitVec 64) := [4794697086780616226#64, 8158064640168781261#64, 13096744586834688815#64, 16840607885511220156#64, 4131703408338449720#64, 6480981068601479193#64, 10538285296894168987#64, 12329834152419229976#64, 15566598209576043074#64, 1334009975649890238#64, 2608012711638119052#64, 6128411473006802146#64, 8268148722764581231#64, 9286055187155687089#64, 11230858885718282805#64, 13951009754708518548#64, 16472876342353939154#64, 17275323862435702243#64, 1135362057144423861#64, 2597628984639134821#64, 3308224258029322869#64, 5365058923640841347#64, 6679025012923562964#64, 8573033837759648693#64, 10970295158949994411#64, 12119686244451234320#64, 12683024718118986047#64, 13788192230050041572#64, 14330467153632333762#64, 15395433587784984357#64, 489312712824947311#64, 1452737877330783856#64, 2861767655752347644#64, 3322285676063803686#64, 5560940570517711597#64, 5996557281743188959#64, 7280758554555802590#64, 8532644243296465576#64, 9350256976987008742#64, 10552545826968843579#64, 11727347734174303076#64, 12113106623233404929#64, 14000437183269869457#64, 14369950271660146224#64, 15101387698204529176#64, 15463397548674623760#64, 17586052441742319658#64, 1182934255886127544#64, 1847814050463011016#64, 2177327727835720531#64, 2830643537854262169#64, 3796741975233480872#64, 4115178125766777443#64, 5681478168544905931#64, 6601373596472566643#64, 7507060721942968483#64, 8399075790359081724#64, 8693463985226723168#64, 9568029438360202098#64, 10144078919501101548#64, 10430055236837252648#64, 11840083180663258601#64, 13761210420658862357#64, 14299343276471374635#64, 14566680578165727644#64, 15097957966210449927#64, 16922976911328602910#64, 17689382322260857208#64, 500013540394364858#64, 748580250866718886#64, 1242879168328830382#64, 1977374033974150939#64, 2944078676154940804#64, 3659926193048069267#64, 4368137639120453308#64, 4836135668995329356#64, 5532061633213252278#64, 6448918945643986474#64, 6902733635092675308#64, 7801388544844847127#64]
/-- The two tables lie where the program has them. -/
structure KAt (w : World) : Prop where
  a : ∀ i : Nat, i < 64 → w.cell? ⟨2, i, none⟩ = some (.int .u32 (iw (K256[i]?.getD 0#32)))
  b : ∀ i : Nat, i < 80 → w.cell? ⟨3, i, none⟩ = some (.int .u64 (iw (K512[i]?.getD 0#64)))
theorem KAt.lt {w : World} (h : KAt w) : 2 < w.heap.size ∧ 3 < w.heap.size :=
  ⟨World.block_lt_of_cell? w _ (h.a 0 (by omega)), World.block_lt_of_cell? w _ (h.b 0 (by omega))⟩
theorem KAt.below {w w' : World} (h : KAt w) (hb : Below w.heap.size w w') : KAt w' := ⟨fun i hi => cell_below hb (h.a i hi), fun i hi => cell_below hb (h.b i hi)⟩
theorem KAt.drewN {w : World} (h : KAt w) (n : Nat) : KAt (w.drewN n) := h.below (below_drewN (Below.refl _ _) n)
theorem KAt.drew {w : World} (h : KAt w) : KAt w.drew := h.drewN 1
theorem KAt.alloc {w : World} (h : KAt w) (o : Obj) : KAt (w.alloc o) := h.below (below_alloc (Below.refl _ _) o)
theorem KAt.grown {w w' : World} (h : KAt w) {row : Option Nat} (hg : w.grownBy w' row) (h1 : row ≠ some 2) (h2 : row ≠ some 3) : KAt w' :=
  ⟨fun i hi => hg.cell (h.a i hi) (fun e => h1 e.symm), fun i hi => hg.cell (h.b i hi) (fun e => h2 e.symm)⟩

structure St where
  ws : List (BitVec 32)
  vs : List (BitVec 64)
def mix1 (ws : List (BitVec 32)) (bs : List (BitVec 8)) : List (BitVec 32) :=
  let r := (s1To (wordsB (iws bs)) ⟨ws[0]?.getD 0#32, ws[1]?.getD 0#32, ws[2]?.getD 0#32, ws[3]?.getD 0#32, ws[4]?.getD 0#32⟩ 80).2
  [ws[0]?.getD 0#32 + r.a, ws[1]?.getD 0#32 + r.b, ws[2]?.getD 0#32 + r.c, ws[3]?.getD 0#32 + r.d, ws[4]?.getD 0#32 + r.e, 0#32, 0#32, 0#32]
def mix2 (ws : List (BitVec 32)) (bs : List (BitVec 8)) : List (BitVec 32) :=
  let r := (s2To K256 (wordsB (iws bs)) ⟨ws[0]?.getD 0#32, ws[1]?.getD 0#32, ws[2]?.getD 0#32, ws[3]?.getD 0#32, ws[4]?.getD 0#32, ws[5]?.getD 0#32, ws[6]?.getD 0#32, ws[7]?.getD 0#32⟩ 64).2
  s2add [r.a, r.b, r.c, r.d, r.e, r.f, r.g, r.h] ws 8
def mix5 (vs : List (BitVec 64)) (bs : List (BitVec 8)) : List (BitVec 64) :=
  let r := (s5To K512 (w64To bs 128) ⟨vs[0]?.getD 0#64, vs[1]?.getD 0#64, vs[2]?.getD 0#64, vs[3]?.getD 0#64, vs[4]?.getD 0#64, vs[5]?.getD 0#64, vs[6]?.getD 0#64, vs[7]?.getD 0#64⟩ 80).2
  s5add [r.a, r.b, r.c, r.d, r.e, r.f, r.g, r.h] vs 8
def mixB (alg : Int) (s : St) (bs : List (BitVec 8)) : St :=
  if alg = 1 then ⟨mix1 s.ws bs, s.vs⟩ else if alg = 2 then ⟨mix2 s.ws bs, s.vs⟩ else ⟨s.ws, mix5 s.vs bs⟩
/-- How many bytes a block has. -/
def blkN (alg : Int) : Nat := if alg = 1 ∨ alg = 2 then 64 else 128
theorem len8 {α : Type} (l : List α) (h : l.length = 8) : ∃ h0 h1 h2 h3 h4 h5 h6 h7, l = [h0, h1, h2, h3, h4, h5, h6, h7] := by
  match l, h with
  | [h0, h1, h2, h3, h4, h5, h6, h7], _ => exact ⟨_, _, _, _, _, _, _, _, rfl⟩

set_option maxHeartbeats 4000000 in
set_option maxRecDepth 100000 in
theorem block_calls (g : Nat) (alg n : Int) (ws : List (BitVec 32)) (vs : List (BitVec 64)) (rv : Value) (A : Option Addr) (c : Nat) (bs : List (BitVec 8)) (w : World)
    (hH : HAt w g alg ws vs rv n) (hr : Rd w .u8 A (iws bs)) (hl : blkN alg ≤ bs.length) (hK : KAt w) :
    Calls Tryd.prog 102 #[.pointer (some ⟨g, 0, none⟩), .slice A bs.length c] w fun e w' => e = .returned (.tuple #[]) ∧
      HAt w' g alg (mixB alg ⟨ws, vs⟩ bs).ws (mixB alg ⟨ws, vs⟩ bs).vs rv n ∧ w.grownBy w' (some g) := by
  have lw := hH.lw
  have lv := hH.lv
  obtain ⟨h0, h1, h2, h3, h4, h5, h6, h7, rfl⟩ := len8 ws lw
  obtain ⟨v0, v1, v2, v3, v4, v5, v6, v7, rfl⟩ := len8 vs lv
  have c0 := hH.c0
  have hgl := hH.lt
  clear lw lv
  have rw1 : w.rangeAt g 1 [.int .u32 (iw h0), .int .u32 (iw h1), .int .u32 (iw h2), .int .u32 (iw h3), .int .u32 (iw h4), .int .u32 (iw h5), .int .u32 (iw h6), .int .u32 (iw h7)] := hH.rw_
  have rv1 : w.rangeAt g 9 [.int .u64 (iw v0), .int .u64 (iw v1), .int .u64 (iw v2), .int .u64 (iw v3), .int .u64 (iw v4), .int .u64 (iw v5), .int .u64 (iw v6), .int .u64 (iw v7)] := hH.rv_
  have hi8 : (Tryd.prog.info? 110).map (·.size) = some 8 := info_w8
  have hi9 : (Tryd.prog.info? 76).map (·.size) = some 8 := info_x8
  have RW := Lib.hid rw1
  have RV := Lib.hid rv1
  have H8 := Lib.hid hi8
  have H9 := Lib.hid hi9
  clear rw1 rv1 hi8 hi9
  by_cases a1 : alg = 1
  · subst a1
    have hl' : 64 ≤ (iws bs).length := by rw [iws_length]; simpa [blkN] using hl
    go_enter Tryd.func102, Tryd.ntmps102
    go_wp2_with (first | (refine wpList_load_mid rfl 110 _ rfl g 1 rfl _ _ RW.out Tryd.underlying110 rfl H8.out ?_))
    have oc := one_calls h0 h1 h2 h3 h4 h5 h6 h7 A c (iws bs) w hr hl'
    rw [iws_length] at oc
    refine oc.mono ?_
    clear oc
    rintro e w1 ⟨r, hr1, rfl, hb1⟩
    have hH1 := hH.below hb1 hgl
    have m : (mixB 1 ⟨[h0, h1, h2, h3, h4, h5, h6, h7], [v0, v1, v2, v3, v4, v5, v6, v7]⟩ bs) = ⟨[h0 + r.a, h1 + r.b, h2 + r.c, h3 + r.d, h4 + r.e, 0#32, 0#32, 0#32], [v0, v1, v2, v3, v4, v5, v6, v7]⟩ := by
      rw [← hr1]; rfl
    have M := Lib.hid m
    clear m hr1
    have hst : w1.there g 1 8 := hH1.tw
    have HT := Lib.hid hst
    have HS := Lib.hid (hH1.set_ws [h0 + r.a, h1 + r.b, h2 + r.c, h3 + r.d, h4 + r.e, 0#32, 0#32, 0#32] rfl)
    clear hst
    go_wp2_with (refine wpList_store_mid rfl 110 _ _ rfl g 1 #[.int .u32 (iw (h0 + r.a)), .int .u32 (iw (h1 + r.b)), .int .u32 (iw (h2 + r.c)), .int .u32 (iw (h3 + r.d)), .int .u32 (iw (h4 + r.e)), .int .u32 0, .int .u32 0, .int .u32 0] rfl rfl HT.out H8.out (by simp [Value.oneCell']) ?_)
    go_end0
    refine ⟨rfl, ?_, grown_trans (grown_of_below hb1 _) (setCells_grown _ _ _ _)⟩
    rw [M.out]; exact HS.out
  · by_cases a2 : alg = 2
    · subst a2
      clear a1
      have hl' : 64 ≤ (iws bs).length := by rw [iws_length]; simpa [blkN] using hl
      go_enter Tryd.func102, Tryd.ntmps102
      go_wp2_with (first | (refine wpList_load_mid rfl 110 _ rfl g 1 rfl _ _ RW.out Tryd.underlying110 rfl H8.out ?_))
      have oc := two_calls K256 h0 h1 h2 h3 h4 h5 h6 h7 A c (iws bs) w hr hl' hK.a
      rw [iws_length] at oc
      refine oc.mono ?_
      clear oc
      rintro e w1 ⟨r, hr1, rfl, hb1⟩
      have hH1 := hH.below hb1 hgl
      obtain ⟨ws', hws⟩ : ∃ ws', s2add [r.a, r.b, r.c, r.d, r.e, r.f, r.g, r.h] [h0, h1, h2, h3, h4, h5, h6, h7] 8 = ws' := ⟨_, rfl⟩
      have hlw : ws'.length = 8 := by rw [← hws, s2add_length]; rfl
      have m : (mixB 2 ⟨[h0, h1, h2, h3, h4, h5, h6, h7], [v0, v1, v2, v3, v4, v5, v6, v7]⟩ bs) = ⟨ws', [v0, v1, v2, v3, v4, v5, v6, v7]⟩ := by
        rw [← hws, ← hr1]; rfl
      rw [hws]
      have M := Lib.hid m
      have hst : w1.there g 1 (nums .u32 (iws ws')).toArray.size := by rw [nums_size, iws_length, hlw]; exact hH1.tw
      have hi : (Tryd.prog.info? 110).map (·.size) = some (nums .u32 (iws ws')).toArray.size := by rw [nums_size, iws_length, hlw]; exact H8.out
      have HT := Lib.hid hst
      have HI := Lib.hid hi
      have HS := Lib.hid (hH1.set_ws ws' hlw)
      clear hst hi m hr1 hws hlw
      go_wp2_with (refine wpList_store_mid rfl 110 _ _ rfl g 1 (nums .u32 (iws ws')).toArray rfl rfl HT.out HI.out (nums_one _ _) ?_)
      go_end0
      refine ⟨rfl, ?_, grown_trans (grown_of_below hb1 _) (setCells_grown _ _ _ _)⟩
      rw [M.out]; exact HS.out
    · have hl' : 128 ≤ bs.length := by simpa [blkN, a1, a2] using hl
      have q1 : (alg == 1) = false := beq_eq_false_iff_ne.2 a1
      have q2 : (alg == 2) = false := beq_eq_false_iff_ne.2 a2
      have A1 := Lib.hid a1
      have A2 := Lib.hid a2
      clear a1 a2
      go_enter Tryd.func102, Tryd.ntmps102
      go_wp2_with (first | (refine wpList_load_mid rfl 76 _ rfl g 9 rfl _ _ RV.out Tryd.underlying76 rfl H9.out ?_))
      refine (wide_calls K512 v0 v1 v2 v3 v4 v5 v6 v7 A c bs w hr hl' hK.b).mono ?_
      rintro e w1 ⟨r, hr1, rfl, hb1⟩
      have hH1 := hH.below hb1 hgl
      obtain ⟨vs', hvs⟩ : ∃ vs', s5add [r.a, r.b, r.c, r.d, r.e, r.f, r.g, r.h] [v0, v1, v2, v3, v4, v5, v6, v7] 8 = vs' := ⟨_, rfl⟩
      have hlv : vs'.length = 8 := by rw [← hvs, s5add_length]; rfl
      have m : (mixB alg ⟨[h0, h1, h2, h3, h4, h5, h6, h7], [v0, v1, v2, v3, v4, v5, v6, v7]⟩ bs) = ⟨[h0, h1, h2, h3, h4, h5, h6, h7], vs'⟩ := by
        rw [← hvs, ← hr1]
        unfold mixB
        rw [if_neg A1.out, if_neg A2.out]
        rfl
      rw [hvs]
      have M := Lib.hid m
      have hst : w1.there g 9 (nums .u64 (iws vs')).toArray.size := by rw [nums_size, iws_length, hlv]; exact hH1.tv
      have hi : (Tryd.prog.info? 76).map (·.size) = some (nums .u64 (iws vs')).toArray.size := by rw [nums_size, iws_length, hlv]; exact H9.out
      have HT := Lib.hid hst
      have HI := Lib.hid hi
      have HS := Lib.hid (hH1.set_vs vs' hlv)
      clear hst hi m hr1 hvs hlv
      go_wp2_with (refine wpList_store_mid rfl 76 _ _ rfl g 9 (nums .u64 (iws vs')).toArray rfl rfl HT.out HI.out (nums_one _ _) ?_)
      go_end0
      refine ⟨rfl, ?_, grown_trans (grown_of_below hb1 _) (setCells_grown _ _ _ _)⟩
      rw [M.out]; exact HS.out
end Go.Proofs.YtdncmmipopdhbaaDoor.Sha
end

section
/-
  A digest under way, by the bytes it was handed: plain law, no program in sight.
-/
set_option linter.unusedVariables false
set_option linter.unusedSimpArgs false
namespace Go.Proofs.YtdncmmipopdhbaaDoor.Sha
open Go.RowKit Go.Proofs.YtdncmmipopdhbaaDoor.K

abbrev Bytes := List (BitVec 8)
/-- The first state. -/
def st0 (alg : Int) : St :=
  if alg = 1 then ⟨[1732584193#32, 4023233417#32, 2562383102#32, 271733878#32, 3285377520#32, 0#32, 0#32, 0#32], List.replicate 8 0#64⟩
  else if alg = 2 then ⟨[1779033703#32, 3144134277#32, 1013904242#32, 2773480762#32, 1359893119#32, 2600822924#32, 528734635#32, 1541459225#32], List.replicate 8 0#64⟩
  else if alg = 3 then ⟨List.replicate 8 0#32, [14680500436340154072#64, 7105036623409894663#64, 10473403895298186519#64, 1526699215303891257#64, 7436329637833083697#64, 10282925794625328401#64, 15784041429090275239#64, 5167115440072839076#64]⟩
  else ⟨List.replicate 8 0#32, [7640891576956012808#64, 13503953896175478587#64, 4354685564936845355#64, 11912009170470909681#64, 5840696475078001361#64, 11170449401992604703#64, 2270897969802886507#64, 6620516959819538809#64]⟩
theorem blkN_pos (alg : Int) : 0 < blkN alg := by unfold blkN; split <;> omega
/-- The state behind k blocks. -/
def absN (alg : Int) (s : St) (m : Bytes) : Nat → St
  | 0 => s
  | k + 1 => mixB alg (absN alg s m k) ((m.drop (k * blkN alg)).take (blkN alg))
theorem absN_append (alg : Int) (s : St) (m b : Bytes) (k : Nat) (h : k * blkN alg ≤ m.length) : absN alg s (m ++ b) k = absN alg s m k := by
  induction k with
  | zero => rfl
  | succ k ih =>
    rw [Nat.succ_mul] at h
    rw [absN, absN, ih (by omega)]
    congr 1
    rw [List.drop_append_of_le_length (by omega), List.take_append_of_le_length (by simp; omega)]
theorem absN_add (alg : Int) (s : St) (m : Bytes) (k j : Nat) : absN alg s m (k + j) = absN alg (absN alg s m k) (m.drop (k * blkN alg)) j := by
  induction j with
  | zero => rfl
  | succ j ih =>
    rw [← Nat.add_assoc, absN, ih, absN]
    congr 2
    rw [List.drop_drop, Nat.add_mul]
/-- How many whole blocks; what stands behind them. -/
def nblk (alg : Int) (m : Bytes) : Nat := m.length / blkN alg
def state (alg : Int) (m : Bytes) : St := absN alg (st0 alg) m (nblk alg m)
def rest (alg : Int) (m : Bytes) : Bytes := m.drop (nblk alg m * blkN alg)
theorem nblk_le (alg : Int) (m : Bytes) : nblk alg m * blkN alg ≤ m.length := Nat.div_mul_le_self _ _
theorem rest_length (alg : Int) (m : Bytes) : (rest alg m).length = m.length % blkN alg := by
  unfold rest nblk
  rw [List.length_drop]
  have := Nat.div_add_mod m.length (blkN alg)
  rw [Nat.mul_comm] at this
  omega
theorem rest_lt (alg : Int) (m : Bytes) : (rest alg m).length < blkN alg := by rw [rest_length]; exact Nat.mod_lt _ (blkN_pos alg)
theorem nblk_of (alg : Int) (m : Bytes) (k r : Nat) (h : m.length = k * blkN alg + r) (hr : r < blkN alg) : nblk alg m = k := by
  unfold nblk
  rw [h, Nat.add_comm, Nat.add_mul_div_right _ _ (blkN_pos alg), Nat.div_eq_of_lt hr, Nat.zero_add]
/-- Bytes that do not fill the block. -/
theorem add_short (alg : Int) (m b : Bytes) (h : (rest alg m).length + b.length < blkN alg) : state alg (m ++ b) = state alg m ∧ rest alg (m ++ b) = rest alg m ++ b := by
  have hm := nblk_le alg m
  have hl : (rest alg m).length = m.length - nblk alg m * blkN alg := by simp [rest]
  have e : nblk alg (m ++ b) = nblk alg m := nblk_of alg _ _ (m.length - nblk alg m * blkN alg + b.length) (by simp; omega) (by omega)
  constructor
  · unfold state; rw [e, absN_append _ _ _ _ _ hm]
  · unfold rest; rw [e, List.drop_append_of_le_length hm]
/-- Bytes that fill it just. -/
theorem add_fill (alg : Int) (m b : Bytes) (h : (rest alg m).length + b.length = blkN alg) : state alg (m ++ b) = mixB alg (state alg m) (rest alg m ++ b) ∧ rest alg (m ++ b) = [] := by
  have hm := nblk_le alg m
  have hl : (rest alg m).length = m.length - nblk alg m * blkN alg := by simp [rest]
  have e : nblk alg (m ++ b) = nblk alg m + 1 := nblk_of alg _ _ 0 (by simp [Nat.add_mul]; omega) (blkN_pos alg)
  have e2 : (m ++ b).drop (nblk alg m * blkN alg) = rest alg m ++ b := by rw [List.drop_append_of_le_length hm]; rfl
  constructor
  · unfold state
    rw [e, absN, absN_append _ _ _ _ _ hm, e2, List.take_of_length_le (by simp; omega)]
  · unfold rest
    rw [e]
    apply List.drop_eq_nil_of_le
    simp [Nat.add_mul]
    omega
theorem state_nil (alg : Int) : state alg [] = st0 alg ∧ rest alg [] = [] := by
  have e : nblk alg [] = 0 := by simp [nblk]
  exact ⟨by unfold state; rw [e]; rfl, by simp [rest]⟩
end Go.Proofs.YtdncmmipopdhbaaDoor.Sha
end

section
/-
  append on rows of numbers that the call owns: the run, and the operation at a plain region and at a step of a region that draws. Plain theorems; no program in sight.
-/
set_option linter.unusedVariables false
set_option linter.unusedSimpArgs false
namespace Go.Proofs.YtdncmmipopdhbaaDoor.K
open Go.RowKit

section
variable {P : Program} {w : World}
theorem ap_run (base : Nat) (k : IntKind) (t ty T : TypeId) (bytes : Nat) (ht : P.underlying t = some (.slice T)) (hinfo : (P.info? T).map (fun i => (i.zero, i.size, i.bytes)) = some (some (.int k 0), 1, bytes)) (hb0 : 0 < bytes)
    (v : Value) (l : List Int) (HO : Own w base k T v l) (A : Option Addr) (c : Nat) (l2 : List Int) (HR : Rd w k A l2) (hA : ∀ a, A = none → c = a → True) (hl : (l.length + l2.length) * bytes ≤ 140737488355328) (hbase : base ≤ w.heap.size) :
    ∃ v' w', (Builtin.append_ #[t, t] ty #[v, .slice A l2.length c]).run P w = .ok v' w' ∧ Own w' base k T v' (l ++ l2) ∧ w.grownBy w' v.ownBlock ∧ (v'.ownBlock = v.ownBlock ∨ v'.ownBlock = some w.heap.size) := by
  obtain ⟨i0, hi, hzz⟩ := Option.map_eq_some_iff.1 hinfo
  simp only [Prod.mk.injEq] at hzz
  obtain ⟨hz0, hz1, hz2⟩ := hzz
  have hlen : l.length + l2.length ≤ 140737488355328 := Nat.le_trans (Nat.le_mul_of_pos_right _ hb0) hl
  rcases A with _ | ad
  · have h0 : l2.length = 0 := by
      rcases Nat.eq_zero_or_pos l2.length with h0 | h0
      · exact h0
      · obtain ⟨ad, h, _⟩ := HR.2 h0
        cases h
    obtain rfl : l2 = [] := List.eq_nil_of_length_eq_zero h0
    refine ⟨v, w, ?_, by simpa using HO, ⟨rfl, rfl, rfl, Nat.le_refl _, fun _ _ _ => rfl⟩, .inl rfl⟩
    rcases HO.2 with ⟨rfl, hn⟩ | ⟨g, cap, cur, rfl, _, _, hnc, _⟩
    · simp [Builtin.append_, run_underlying ht, sizeOf, typeInfo, hi, Builtin.lenOf, Builtin.firstCells]
    · simp [Builtin.append_, run_underlying ht, sizeOf, typeInfo, hi, Builtin.lenOf, Builtin.firstCells, hnc, storeCells]
  · have hcells : ∀ j u, (nums k l2)[j]? = some u → w.cell? (ad.add j) = some u := by
      intro j u hu
      have hj : j < l2.length := by have := (List.getElem?_eq_some_iff.1 hu).1; simpa using this
      obtain ⟨a', e, hc⟩ := HR.2 (by omega)
      cases e
      rw [hc j hj, ← hu, nums_get k l2 j hj]
    obtain ⟨v', w', hr, h2, h3, _, h5⟩ := run_append_own_at (P := P) w base t ty T i0 (.int k 0) 1 bytes ht hi hz0 hz1 hz2 rfl (by omega) v l.length (nums k l) HO ad l2.length c (nums k l2) (by simp) hcells
      (fun u hu => by obtain ⟨x, _, rfl⟩ := List.mem_map.1 hu; rfl) (by simp only [maxLen]; omega) hl hbase
    refine ⟨v', w', hr, ?_, h3, h5⟩
    unfold Own
    rw [List.length_append, nums_append]
    exact h2
variable {ops : Array Oper} {rest : List Oper} {o : Oper} {a : Act} {Q : Exit → Act → World → Prop}
theorem wp_ap {K : Act → World → Prop} (base : Nat) (k : IntKind) (s x : Operand) (t T : TypeId) (bytes : Nat)
    (ho : o.op = .call { callee := .builtin .append, args := #[s, x], argTypes := #[t, t] })
    (ht : P.underlying t = some (.slice T)) (hinfo : (P.info? T).map (fun i => (i.zero, i.size, i.bytes)) = some (some (.int k 0), 1, bytes)) (hb0 : 0 < bytes)
    (v : Value) (l l2 : List Int) (A : Option Addr) (n c : Nat) (hs : a.eval s = v) (hx : a.eval x = .slice A n c) (hn : l2.length = n)
    (HO : Own w base k T v l) (HR : Rd w k A l2) (hl : (l.length + l2.length) * bytes ≤ 140737488355328) (hbase : base ≤ w.heap.size) (n' : Nat) (hn' : l.length + l2.length = n')
    (h : ∀ A' c' w', Own w' base k T (.slice A' n' c') (l ++ l2) → w.grownBy w' v.ownBlock → ((Value.slice A' n' c').ownBlock = v.ownBlock ∨ (Value.slice A' n' c').ownBlock = some w.heap.size) → K (a.put o.dst (.slice A' n' c')) w') : o.wp P a w K Q := by
  subst hn
  obtain ⟨v', w', hr, h2, h3, h5⟩ := ap_run (P := P) base k t o.type T bytes ht hinfo hb0 v l HO A c l2 HR (fun _ _ _ => trivial) hl hbase
  unfold Oper.wp execOp
  simp only [ho, resolve, invoke, builtin, Sem.run_bind, Sem.run_pure, Result.andThen_ok, List.map_toArray, List.map_cons, List.map_nil, hs, hx, hr]
  obtain ⟨A', c', e, _⟩ := h2.rd
  rw [List.length_append, hn'] at e
  subst e
  exact h A' c' w' h2 h3 h5
theorem wpList_ap (base : Nat) (k : IntKind) (hgd : o.guard = none) (s x : Operand) (t T : TypeId) (bytes : Nat)
    (ho : o.op = .call { callee := .builtin .append, args := #[s, x], argTypes := #[t, t] })
    (ht : P.underlying t = some (.slice T)) (hinfo : (P.info? T).map (fun i => (i.zero, i.size, i.bytes)) = some (some (.int k 0), 1, bytes)) (hb0 : 0 < bytes)
    (v : Value) (l l2 : List Int) (A : Option Addr) (n c : Nat) (hs : a.eval s = v) (hx : a.eval x = .slice A n c) (hn : l2.length = n)
    (HO : Own w base k T v l) (HR : Rd w k A l2) (hl : (l.length + l2.length) * bytes ≤ 140737488355328) (hbase : base ≤ w.heap.size) (n' : Nat) (hn' : l.length + l2.length = n')
    (h : ∀ A' c' w', Own w' base k T (.slice A' n' c') (l ++ l2) → w.grownBy w' v.ownBlock → ((Value.slice A' n' c').ownBlock = v.ownBlock ∨ (Value.slice A' n' c').ownBlock = some w.heap.size) → wpList P ops Q rest (a.put o.dst (.slice A' n' c')) w') : wpList P ops Q (o :: rest) a w :=
  wpList_plain hgd fun K hK => wp_ap base k s x t T bytes ho ht hinfo hb0 v l l2 A n c hs hx hn HO HR hl hbase n' hn' fun A' c' w' h1 h2 h3 => hK _ _ (h A' c' w' h1 h2 h3)
/-- At a step of a region that draws. -/
theorem step_ap {K : Act → World → Prop} {E : Prop} (base : Nat) (k : IntKind) (hgd : o.guard = none) (s x : Operand) (t T : TypeId) (bytes : Nat)
    (ho : o.op = .call { callee := .builtin .append, args := #[s, x], argTypes := #[t, t] })
    (ht : P.underlying t = some (.slice T)) (hinfo : (P.info? T).map (fun i => (i.zero, i.size, i.bytes)) = some (some (.int k 0), 1, bytes)) (hb0 : 0 < bytes)
    (v : Value) (l l2 : List Int) (A : Option Addr) (n c : Nat) (hs : a.eval s = v) (hx : a.eval x = .slice A n c) (hn : l2.length = n)
    (HO : Own w base k T v l) (HR : Rd w k A l2) (hl : (l.length + l2.length) * bytes ≤ 140737488355328) (hbase : base ≤ w.heap.size) (n' : Nat) (hn' : l.length + l2.length = n')
    (h : ∀ A' c' w', Own w' base k T (.slice A' n' c') (l ++ l2) → w.grownBy w' v.ownBlock → ((Value.slice A' n' c').ownBlock = v.ownBlock ∨ (Value.slice A' n' c').ownBlock = some w.heap.size) → K (a.put o.dst (.slice A' n' c')) w') :
    if Region.wanted o (yielded ops a.tmps) = true then Oper.wp P o a w K Q else E := by
  rw [if_pos (by simp [Region.wanted, hgd])]
  exact wp_ap base k s x t T bytes ho ht hinfo hb0 v l l2 A n c hs hx hn HO HR hl hbase n' hn' h
/-- append(v, y): y has just been laid in a block of its own. -/
theorem wpList_ap1 (base : Nat) (k : IntKind) (hgd : o.guard = none) (s x : Operand) (t T : TypeId) (bytes : Nat)
    (ho : o.op = .call { callee := .builtin .append, args := #[s, x], argTypes := #[t, t] })
    (ht : P.underlying t = some (.slice T)) (hinfo : (P.info? T).map (fun i => (i.zero, i.size, i.bytes)) = some (some (.int k 0), 1, bytes)) (hb0 : 0 < bytes)
    (v : Value) (l : List Int) (y : Int) (hs : a.eval s = v) (hx : a.eval x = .slice (some ⟨w.heap.size, 0, none⟩) 1 1)
    (HO : Own w base k T v l) (hl : (l.length + 1) * bytes ≤ 140737488355328) (hbase : base ≤ w.heap.size)
    (h : ∀ A' c' w', Own w' base k T (.slice A' (l.length + 1) c') (l ++ [y]) → w.grownBy w' v.ownBlock → ((Value.slice A' (l.length + 1) c').ownBlock = v.ownBlock ∨ (Value.slice A' (l.length + 1) c').ownBlock = some (w.heap.size + 1)) → wpList P ops Q rest (a.put o.dst (.slice A' (l.length + 1) c')) w') :
    wpList P ops Q (o :: rest) a (w.alloc (.cells #[.int k y] T)) :=
  wpList_ap base k hgd s x t T bytes ho ht hinfo hb0 v l [y] _ 1 1 hs hx rfl (HO.alloc _) ((Arr.new w k T [y]).rd (by simp)) hl (by simp; omega) _ rfl
    fun A' c' w' h1 h2 h3 => h A' c' w' h1 ⟨h2.os, h2.tape, h2.output, Nat.le_trans (by simp) h2.size, fun i hi hr => (h2.block i (by simp; omega) hr).trans (Below.heap_alloc w _ i hi)⟩ (by simpa using h3)
end
/-- What is below stays where a row of the call's own, or new memory, is written. -/
theorem below_grown {B : Nat} {w0 w w' : World} (h : Below B w0 w) {row : Option Nat} (hg : w.grownBy w' row) (hB : B ≤ w.heap.size) (hr : ∀ b, row = some b → B ≤ b) : Below B w0 w' := h.grown hg hB hr
theorem Rd.belowB {w w' : World} {k : IntKind} {A : Option Addr} {l : List Int} {B : Nat} (h : Rd w k A l) (hb : Below B w w') (hA : ∀ a, A = some a → a.block < B) : Rd w' k A l :=
  ⟨h.1, fun hl => let ⟨a, e, hc⟩ := h.2 hl; ⟨a, e, fun i hi => (hb.cell (p := a.add i) (by
    have : (a.add i).block = a.block := by unfold Addr.add; split <;> rfl
    rw [this]; exact hA a e)).trans (hc i hi)⟩⟩

/-! ### Pieces of a slice -/
section
variable {P : Program} {z : Option Value} {b : Nat}
theorem add_block (a : Addr) (i : Nat) : (a.add i).block = a.block := by unfold Addr.add; split <;> rfl
theorem cut_to (t T : TypeId) (ht : P.underlying t = some (.slice T)) (hi : (P.info? T).map (fun i => (i.zero, i.size, i.bytes)) = some (z, 1, b)) (A : Option Addr) (n c : Nat) (k : IntKind) (j : Int) (h0 : 0 ≤ j) (hc : j ≤ c) :
    ∀ W : World, (Instr.slice t (.slice A n c) none (some (.int k j)) none).run P W = .ok (.slice A j.toNat c) W := by
  intro W
  obtain ⟨i0, hi, hzz⟩ := Option.map_eq_some_iff.1 hi
  have hel : P.elem t = T := by simp [Program.elem, ht]
  have hu : P.underlying t = some (.slice (P.elem t)) := by rw [hel]; exact ht
  have ha : (A.map fun x => x.add 0) = A := by cases A <;> simp [Addr.add]
  rw [run_slice_h W t A n c hu k j h0 hc, hel]
  simp [sizeOf, typeInfo, hi, sliced, Result.andThen, ha]
/-- What stands behind the first lo, up to hi. -/
theorem cut_mid (t T : TypeId) (ht : P.underlying t = some (.slice T)) (hi : (P.info? T).map (fun i => (i.zero, i.size, i.bytes)) = some (z, 1, b)) (A : Option Addr) (n c : Nat) (kl kh : IntKind) (lo hi' : Int) (h0 : 0 ≤ lo) (h1 : lo ≤ hi') (h2 : hi' ≤ n) (hc : n ≤ c) :
    ∃ A' : Option Addr, (∀ W : World, (Instr.slice t (.slice A n c) (some (.int kl lo)) (some (.int kh hi')) none).run P W = .ok (.slice A' (hi'.toNat - lo.toNat) (c - lo.toNat)) W) ∧
      (∀ (W : World) (k : IntKind) (l : List Int), l.length = n → Rd W k A l → Rd W k A' ((l.drop lo.toNat).take (hi'.toNat - lo.toNat))) ∧ (∀ p : Nat → Prop, (∀ a, A = some a → p a.block) → ∀ a, A' = some a → p a.block) := by
  obtain ⟨i0, hi, hzz⟩ := Option.map_eq_some_iff.1 hi
  simp only [Prod.mk.injEq] at hzz
  have hel : P.elem t = T := by simp [Program.elem, ht]
  have hu : P.underlying t = some (.slice (P.elem t)) := by rw [hel]; exact ht
  refine ⟨if c = lo.toNat then A else A.map (·.add lo.toNat), fun W => ?_, fun W k l hl hr => ?_, fun p hp a ha => ?_⟩
  · rw [run_slice_lh W t A n c hu kl kh lo hi' h0 h1 (by omega), hel]
    simp [sizeOf, typeInfo, hi, hzz.2.1, sliced, Result.andThen]
  · by_cases e : c = lo.toNat
    · rw [if_pos e]
      have : (l.drop lo.toNat).take (hi'.toNat - lo.toNat) = [] := by rw [List.drop_eq_nil_of_le (by omega), List.take_nil]
      rw [this]; exact Rd.nil _ _ _
    · rw [if_neg e]
      cases A with
      | none =>
        have h0 : l = [] := by
          rcases Nat.eq_zero_or_pos l.length with h | h
          · exact List.eq_nil_of_length_eq_zero h
          · obtain ⟨a, ha, _⟩ := hr.2 h
            cases ha
        subst h0
        simp only [List.drop_nil, List.take_nil]
        exact Rd.nil _ _ _
      | some a => exact (Rd.drop hr _).take _
  · split at ha
    · exact hp a ha
    · cases A with
      | none => cases ha
      | some a0 =>
        obtain rfl : a0.add lo.toNat = a := by simpa using ha
        rw [add_block]; exact hp a0 rfl
theorem cut_from (t T : TypeId) (ht : P.underlying t = some (.slice T)) (hi : (P.info? T).map (fun i => (i.zero, i.size, i.bytes)) = some (z, 1, b)) (A : Option Addr) (n c : Nat) (kl : IntKind) (lo : Int) (h0 : 0 ≤ lo) (h2 : lo ≤ n) (hc : n ≤ c) :
    ∃ A' : Option Addr, (∀ W : World, (Instr.slice t (.slice A n c) (some (.int kl lo)) none none).run P W = .ok (.slice A' (n - lo.toNat) (c - lo.toNat)) W) ∧
      (∀ (W : World) (k : IntKind) (l : List Int), l.length = n → Rd W k A l → Rd W k A' (l.drop lo.toNat)) ∧ (∀ p : Nat → Prop, (∀ a, A = some a → p a.block) → ∀ a, A' = some a → p a.block) := by
  obtain ⟨A', h1, h2', h3⟩ := cut_mid (P := P) t T ht hi A n c kl .i64 lo n h0 h2 (by omega) hc
  obtain ⟨i0, hi, hzz⟩ := Option.map_eq_some_iff.1 hi
  simp only [Prod.mk.injEq] at hzz
  have hel : P.elem t = T := by simp [Program.elem, ht]
  have hu : P.underlying t = some (.slice (P.elem t)) := by rw [hel]; exact ht
  refine ⟨A', fun W => ?_, fun W k l hl hr => ?_, h3⟩
  · have e1 := h1 W
    rw [run_slice_lh W t A n c hu kl .i64 lo n h0 h2 (by omega), hel] at e1
    rw [Int.toNat_natCast] at e1
    rw [run_slice_l W t A n c hu kl lo h0 h2, hel]
    exact e1
  · have := h2' W k l hl hr
    rw [List.take_of_length_le (by simp; omega)] at this
    exact this
end
/-! ### make -/
section
variable {P : Program}
theorem make_nums (t T : TypeId) (k : IntKind) (bytes : Nat) (ht : P.underlying t = some (.slice T)) (hinfo : (P.info? T).map (fun i => (i.zero, i.size, i.bytes)) = some (some (.int k 0), 1, bytes)) (kl kc : IntKind) (l c : Int) (h0 : 0 ≤ l) (hlc : l ≤ c) (hc : (bytes : Int) * c ≤ 281474976710656) (h63 : c ≤ 9223372036854775807) :
    ∀ W : World, (Instr.makeSlice t (.int kl l) (.int kc c)).run P W = .ok (.slice (some ⟨W.heap.size, 0, none⟩) l.toNat c.toNat) (W.alloc (.cells (madeCells #[.int k 0] c.toNat) T)) := by
  intro W
  obtain ⟨i0, hi, hzz⟩ := Option.map_eq_some_iff.1 hinfo
  simp only [Prod.mk.injEq] at hzz
  obtain ⟨hz0, hz1, hz2⟩ := hzz
  have := run_make (P := P) W t T i0 (.int k 0) ht hi hz0 kl kc l c h0 hlc (by rw [hz2]; exact hc) h63
  rw [hz1, Nat.mul_one] at this
  exact this
end
theorem Own.made (w : World) (base : Nat) (k : IntKind) (T n : Nat) (hbase : base ≤ w.heap.size) (hn : n ≤ 9223372036854775807) : Own (w.alloc (.cells (madeCells #[.int k 0] n) T)) base k T (.slice (some ⟨w.heap.size, 0, none⟩) 0 n) [] := by
  have h := (arr_made w k T n).own (base := base) hbase (by simpa using hn) 0 (Nat.zero_le _)
  simpa using h
section
variable {P : Program} {w : World} {ops : Array Oper} {rest : List Oper} {o : Oper} {a : Act} {Q : Exit → Act → World → Prop}
theorem wpList_make (k : IntKind) (hgd : o.guard = none) (x y : Operand) (t T : TypeId) (bytes : Nat) (ho : o.op = .makeSlice t x y)
    (ht : P.underlying t = some (.slice T)) (hinfo : (P.info? T).map (fun i => (i.zero, i.size, i.bytes)) = some (some (.int k 0), 1, bytes))
    (kl kc : IntKind) (l c : Int) (hx : a.eval x = .int kl l) (hy : a.eval y = .int kc c) (h0 : 0 ≤ l) (hlc : l ≤ c) (hc : (bytes : Int) * c ≤ 281474976710656) (h63 : c ≤ 9223372036854775807) (l' c' : Nat) (hl' : l.toNat = l') (hc' : c.toNat = c')
    (h : wpList P ops Q rest (a.put o.dst (.slice (some ⟨w.heap.size, 0, none⟩) l' c')) (w.alloc (.cells (madeCells #[.int k 0] c') T))) : wpList P ops Q (o :: rest) a w := by
  refine wpList_plain hgd fun K hK => ?_
  subst hl' hc'
  have hr := make_nums (P := P) t T k bytes ht hinfo kl kc l c h0 hlc hc h63 w
  unfold Oper.wp execOp
  simp only [ho, hx, hy, Sem.run_bind, hr, Result.andThen_ok, Sem.run_pure]
  exact hK _ _ h
end
section
variable {P : Program} {w : World} {ops : Array Oper} {rest : List Oper} {o : Oper} {a : Act} {Q : Exit → Act → World → Prop}
/-- append(v, y): y has just been laid in a block of its own; the length by name. -/
theorem wpList_ap1n (base : Nat) (k : IntKind) (hgd : o.guard = none) (s x : Operand) (t T : TypeId) (bytes : Nat)
    (ho : o.op = .call { callee := .builtin .append, args := #[s, x], argTypes := #[t, t] })
    (ht : P.underlying t = some (.slice T)) (hinfo : (P.info? T).map (fun i => (i.zero, i.size, i.bytes)) = some (some (.int k 0), 1, bytes)) (hb0 : 0 < bytes)
    (v : Value) (l : List Int) (y : Int) (hs : a.eval s = v) (hx : a.eval x = .slice (some ⟨w.heap.size, 0, none⟩) 1 1)
    (HO : Own w base k T v l) (n : Nat) (hn : l.length = n) (hl : (n + 1) * bytes ≤ 140737488355328) (hbase : base ≤ w.heap.size) (n' : Nat) (hn' : n + 1 = n')
    (h : ∀ A' c' w', Own w' base k T (.slice A' n' c') (l ++ [y]) → w.grownBy w' v.ownBlock → wpList P ops Q rest (a.put o.dst (.slice A' n' c')) w') :
    wpList P ops Q (o :: rest) a (w.alloc (.cells #[.int k y] T)) := by
  subst hn hn'
  exact wpList_ap1 base k hgd s x t T bytes ho ht hinfo hb0 v l y hs hx HO hl hbase fun A' c' w' h1 h2 _ => h A' c' w' h1 h2
end
/-- A row of the call's own, cut to its first j. -/
theorem Own.take {w : World} {base : Nat} {k : IntKind} {T n c j : Nat} {A : Option Addr} {l : List Int} (h : Own w base k T (.slice A n c) l) (hn : l.length = n) (hj : j ≤ n) : Own w base k T (.slice A j c) (l.take j) := by
  have hl : (l.take j).length = j := by rw [List.length_take]; omega
  unfold Own
  rw [hl]
  refine ⟨by simp [nums]; omega, ?_⟩
  rcases h.2 with ⟨e, h0⟩ | ⟨g, cap, cur, e, hb, hh, hnc, hm, hs, ht⟩
  · cases e
    exact .inl ⟨by rw [show j = 0 by omega], by omega⟩
  · cases e
    refine .inr ⟨g, c, cur, rfl, hb, hh, by omega, hm, hs, ?_⟩
    have := congrArg (List.take j) ht
    rw [List.take_take, Nat.min_eq_left (by rw [hn]; omega), nums_take] at this
    rw [Nat.mul_one]; simpa using this
theorem rd_new4 (w : World) (k : IntKind) (T : Nat) (a b c d : Int) : Rd (w.alloc (.cells #[.int k a, .int k b, .int k c, .int k d] T)) k (some ⟨w.heap.size, 0, none⟩) [a, b, c, d] := (Arr.new w k T [a, b, c, d]).rd (by simp)
theorem rd_new1 (w : World) (k : IntKind) (T : Nat) (a : Int) : Rd (w.alloc (.cells #[.int k a] T)) k (some ⟨w.heap.size, 0, none⟩) [a] := (Arr.new w k T [a]).rd (by simp)
theorem grown_of_alloc {w w' : World} {o : Obj} {row : Option Nat} (h : (w.alloc o).grownBy w' row) : w.grownBy w' row :=
  ⟨h.os, h.tape, h.output, Nat.le_trans (by simp) h.size, fun i hi hr => (h.block i (by simp; omega) hr).trans (Below.heap_alloc w _ i hi)⟩
end Go.Proofs.YtdncmmipopdhbaaDoor.K
end
