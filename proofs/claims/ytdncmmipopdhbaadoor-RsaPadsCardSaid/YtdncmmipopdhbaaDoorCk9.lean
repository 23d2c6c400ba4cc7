/-
  Parts of the walks and of the plain laws below the statement (XF, XBr, XCut, XLen32, XNum, XRows, Apz). Texts named F.. are what the kit's print writes for one function each, through a program of mine that hands it contracts of the functions that it does not take.
-/
import Derived.Test.YtdncmmipopdhbaaDoorCk8
import Derived.Test.YtdncmmipopdhbaaDoorCk1
import Derived.Lib.Hide
import Derived.Test.YtdncmmipopdhbaaDoorCk5
section
/-
  What the functions that are walked by hand compute: plain functions on numbers and lists, in the form of the print's. No program in sight.
-/
set_option linter.unusedVariables false
namespace Go.Proofs.YtdncmmipopdhbaaDoor.P
open Go.RowKit

def u8ok (l : List Int) : Bool := l.all fun x => decide (0 ≤ x) && decide (x < 256)
def u16ok (l : List Int) : Bool := l.all fun x => decide (0 ≤ x) && decide (x < 65536)
def u32ok (l : List Int) : Bool := l.all fun x => decide (0 ≤ x) && decide (x < 4294967296)
/-- The number of limbs of 32 bits; of digits of 16 bits. -/
def vl (l : List Int) : Nat := l.foldr (fun x a => x.toNat + 4294967296 * a) 0
def vd (l : List Int) : Nat := l.foldr (fun x a => x.toNat + 65536 * a) 0
/-- A number's limbs. -/
def lm (n : Nat) : List Int := if h : n = 0 then [] else ((n % 4294967296 : Nat) : Int) :: lm (n / 4294967296)
termination_by n
decreasing_by omega
/-- How many binary digits. -/
def blen (n : Nat) : Int := if n = 0 then 0 else ((Nat.log2 n + 1 : Nat) : Int)

def bits_Sub32.f (x y b : Int) : Option (Int × Int) := if (0 ≤ x ∧ x < 4294967296) ∧ (0 ≤ y ∧ y < 4294967296) ∧ (b = 0 ∨ b = 1) then some ((x - y - b) % 4294967296, if x < y + b then 1 else 0) else none
def bits_Div32.f (h l y : Int) : Option (Int × Int) := if (0 ≤ h ∧ h < y) ∧ (0 ≤ l ∧ l < 4294967296) ∧ y < 4294967296 then some ((h * 4294967296 + l) / y, (h * 4294967296 + l) % y) else none
def bits_Len32.f (x : Int) : Option Int := if 0 ≤ x ∧ x < 4294967296 then some (blen x.toNat) else none
def nat_Bits.f (a : List Int) : Option Int := if u32ok a = true ∧ a.length ≤ 4096 then some (blen (vl a)) else none
def cmpN (a b : Nat) : Int := if a < b then -1 else if b < a then 1 else 0
def nat_Cmp.f (a b : List Int) : Option Int := if u32ok a = true ∧ u32ok b = true ∧ a.length ≤ 4096 ∧ b.length ≤ 4096 then some (cmpN (vl a) (vl b)) else none
def nat_Trim.f (a : List Int) : Option (List Int) := if u32ok a = true ∧ a.length ≤ 4096 then some (lm (vl a)) else none
def nat_parts.f (a b : List Int) : Option (List Int × List Int) := if u32ok a = true ∧ u32ok b = true ∧ a.length ≤ 2048 ∧ b.length ≤ 1024 ∧ vl b ≠ 0 then some (lm (vl a / vl b), lm (vl a % vl b)) else none
/-- A power modulo a number, by squares. -/
def pw (b : Nat) (m : Nat) (e : Nat) : Nat := if h : e = 0 then 1 % m else if e % 2 = 0 then pw (b * b % m) m (e / 2) else b * pw (b * b % m) m (e / 2) % m
termination_by e
decreasing_by all_goals omega
def nat_ExpMod.f (b e m : List Int) : Option (List Int × Int) :=
  if u32ok b = true ∧ u32ok e = true ∧ u32ok m = true ∧ b.length ≤ 4096 ∧ e.length ≤ 4096 ∧ m.length ≤ 4096 then
    if b.length > 512 ∨ e.length > 256 ∨ m.length > 256 then some ([], 3) else if vl m = 0 then some ([], 11) else some (lm (pw (vl b) (vl m) (vl e)), 0) else none
def chirographref01_Limbs.f (d : List Int) : Option (List Int) := if u16ok d = true ∧ d.length ≤ 8192 then some (lm (vd d)) else none

/-- A digest's bytes. -/
def dig (alg : Int) (l : List Int) : List Int := K.iws (Sha.hashOf alg (l.map (BitVec.ofInt 8)))
def algOk (alg : Int) : Bool := decide (1 ≤ alg) && decide (alg ≤ 4)
def chirographref02_Size.f (alg : Int) : Option Int := some (Sha.sizeN alg)
def chirographref02_Digest.f (alg : Int) (l : List Int) : Option (List Int) := if u8ok l = true ∧ l.length ≤ 16777216 then some (if algOk alg = true then dig alg l else []) else none
def digest_Sum.f (alg : Int) (ls : List (List Int)) : Option (List Int × Int) :=
  if algOk alg = false then some ([], 1) else if (ls.all u8ok) = true ∧ ls.length ≤ 16 ∧ ls.flatten.length ≤ 16777216 then some (dig alg ls.flatten, 0) else none
def be32 (i : Int) : List Int := [i / 16777216 % 256, i / 65536 % 256, i / 256 % 256, i % 256]
/-- The first k digests of a seed and a count, one behind the other. -/
def maskTo (alg : Int) (seed : List Int) : Nat → List Int
  | 0 => []
  | k + 1 => maskTo alg seed k ++ dig alg (seed ++ be32 k)
/-- Bytes made of a seed. -/
def maskOf (alg : Int) (seed : List Int) (n : Nat) : List Int := (maskTo alg seed ((n + (Sha.sizeN alg).toNat - 1) / (Sha.sizeN alg).toNat)).take n
def rsa_Mask.f (alg : Int) (seed : List Int) (n : Int) : Option (List Int × Int) :=
  if algOk alg = false ∨ n < 0 ∨ n > 2048 then some ([], 1) else if u8ok seed = true ∧ seed.length ≤ 16777000 then some (maskOf alg seed n.toNat, 0) else none

/-- A length in the shortest way. -/
def lenBytes (n : Nat) : List Int := if n < 128 then [(n : Int)] else if n < 256 then [129, (n : Int)] else if n < 65536 then [130, (n : Int) / 256, (n : Int) % 256] else [131, (n : Int) / 65536, (n : Int) / 256 % 256, (n : Int) % 256]
def der_Put.f (cls tag : Int) (cons : Bool) (ls : List (List Int)) : Option (List Int × Int) :=
  if cls = 0 ∧ 1 ≤ tag ∧ tag ≤ 30 ∧ (ls.all u8ok) = true ∧ ls.length ≤ 16 ∧ ls.flatten.length < 128 then some (((if cons then 32 else 0) + tag) :: (ls.flatten.length : Int) :: ls.flatten, 0) else none
def bytes_Repeat.f (b : List Int) (n : Int) : Option (List Int) := if b.length = 1 ∧ 0 ≤ n ∧ n ≤ 4096 then some (List.replicate n.toNat (b.getD 0 0)) else none
def oidB (alg : Int) : List Int := if alg = 1 then [43, 14, 3, 2, 26] else if alg = 2 then [96, 134, 72, 1, 101, 3, 4, 2, 1] else if alg = 3 then [96, 134, 72, 1, 101, 3, 4, 2, 2] else [96, 134, 72, 1, 101, 3, 4, 2, 3]
def infoB (alg : Int) (sum : List Int) : List Int := 48 :: (((oidB alg).length : Int) + 8 + sum.length) :: (48 :: (((oidB alg).length : Int) + 4) :: 6 :: ((oidB alg).length : Int) :: (oidB alg ++ 5 :: 0 :: 4 :: (sum.length : Int) :: sum))
/-- A digest filled up. -/
def rsa_Pad.f (alg : Int) (sum : List Int) (n : Int) : Option (List Int × Int) :=
  if algOk alg = false ∨ ¬ (sum.length : Int) = Sha.sizeN alg ∨ 2048 < n then some ([], 1) else if u8ok sum = true then
    if n < (infoB alg sum).length + 11 then some ([], 2) else some (0 :: 1 :: (List.replicate (n.toNat - (infoB alg sum).length - 3) 255 ++ 0 :: infoB alg sum), 0) else none
/-- The four identifiers, and their bytes. -/
def oidTab : List (List UInt8 × List Int) :=
  [("1.3.14.3.2.26".toUTF8.data.toList, [43, 14, 3, 2, 26]), ("2.16.840.1.101.3.4.2.1".toUTF8.data.toList, [96, 134, 72, 1, 101, 3, 4, 2, 1]),
   ("2.16.840.1.101.3.4.2.2".toUTF8.data.toList, [96, 134, 72, 1, 101, 3, 4, 2, 2]), ("2.16.840.1.101.3.4.2.3".toUTF8.data.toList, [96, 134, 72, 1, 101, 3, 4, 2, 3])]
def der_PutOid.f (s : ByteArray) : Option (List Int × Int) := (oidTab.find? fun p => p.1 == s.data.toList).map fun p => (p.2, 0)
/-- The page's examples. -/
def chirographlaw08_live.f : Option Bool := some true
end Go.Proofs.YtdncmmipopdhbaaDoor.P
end

section
/-
  Two vocabularies for rows of numbers in memory: one is turned into the other.
-/
set_option linter.unusedVariables false
set_option linter.unusedSimpArgs false
namespace Go.Proofs.YtdncmmipopdhbaaDoor.P
open Go.RowKit Go.Proofs.YtdncmmipopdhbaaDoorW.PrintWords Go.Proofs.YtdncmmipopdhbaaDoorW.PrintLast Go.Proofs.YtdncmmipopdhbaaDoorW.PrintMore

theorem C_rd {k : IntKind} {w : World} {A : Option Addr} {n : Nat} {l : List Int} (h : Kd.C (Kd.int k) w A n l) : K.Rd w k A l := by
  obtain ⟨h1, h2, h3⟩ := h
  refine ⟨by omega, fun hl => ?_⟩
  obtain ⟨a, e, hc⟩ := h3 (by omega)
  refine ⟨a, e, fun i hi => ?_⟩
  obtain ⟨c, hl1, hk, hcell⟩ := hc i _ (List.getElem?_eq_getElem hi)
  have hk : c = [.int k l[i]] := hk
  have := hcell 0 (.int k l[i]) (by rw [hk]; rfl)
  rw [List.getD_eq_getElem?_getD, List.getElem?_eq_getElem hi]
  have e1 : i * (Kd.int k).sz + 0 = i := by show i * 1 + 0 = i; omega
  rw [e1] at this
  exact this
theorem rd_C {k : IntKind} {w : World} {A : Option Addr} {l : List Int} (h : K.Rd w k A l) {n : Nat} (hn : l.length = n) : Kd.C (Kd.int k) w A n l := by
  subst hn
  refine ⟨rfl, h.1, fun hl => ?_⟩
  obtain ⟨a, e, hc⟩ := h.2 hl
  refine ⟨a, e, fun j p hp => ⟨[.int k p], rfl, rfl, fun i u hu => ?_⟩⟩
  obtain ⟨hj, hp⟩ := List.getElem?_eq_some_iff.1 hp
  match i, hu with
  | 0, hu =>
    have hu : Value.int k p = u := by simpa using hu
    have e1 : j * (Kd.int k).sz + 0 = j := by show j * 1 + 0 = j; omega
    rw [e1, hc j hj, List.getD_eq_getElem?_getD, List.getElem?_eq_getElem hj, hp, ← hu]
    rfl
theorem own_R {k : IntKind} {w : World} {base T : Nat} {v : Value} {l : List Int} (h : K.Own w base k T v l) {ok : Nat → Prop} (hok : ∀ b, v.ownBlock = some b → ok b) : Kd.R (Kd.int k) T w base ok v l := by
  refine ⟨hok, K.nums k l, h, by show _ = _ * 1; simp [K.nums], fun j p hp => ?_⟩
  obtain ⟨hj, hp⟩ := List.getElem?_eq_some_iff.1 hp
  show ((K.nums k l).drop (j * 1)).take 1 = [.int k p]
  have hj' : j < (K.nums k l).length := by simpa using hj
  rw [Nat.mul_one, List.drop_eq_getElem_cons hj', List.take_succ_cons, List.take_zero]
  simp [K.nums, hp]
theorem R_own {k : IntKind} {w : World} {base T : Nat} {v : Value} {l : List Int} {ok : Nat → Prop} (h : Kd.R (Kd.int k) T w base ok v l) : K.Own w base k T v l := by
  obtain ⟨_, inner, ho, hl, hr⟩ := h
  have e : inner = K.nums k l := by
    apply List.ext_getElem?
    intro j
    rcases Nat.lt_or_ge j l.length with hj | hj
    · have := hr j _ (List.getElem?_eq_getElem hj)
      have this : (inner.drop (j * 1)).take 1 = [.int k l[j]] := this
      have h0 : ((inner.drop (j * 1)).take 1)[0]? = some (.int k l[j]) := by rw [this]; rfl
      rw [List.getElem?_take, if_pos (by omega), List.getElem?_drop] at h0
      simp only [Nat.mul_one, Nat.add_zero] at h0
      rw [h0, K.nums_get k l j hj, List.getD_eq_getElem?_getD, List.getElem?_eq_getElem hj]
      rfl
    · have hl : inner.length = l.length * 1 := hl
      rw [List.getElem?_eq_none (by omega), List.getElem?_eq_none (by simpa using hj)]
  subst e
  exact ho
theorem drawn_of {w w' : World} (h : ∃ n, w.drewN n = w') : Drawn0 w w' := by
  obtain ⟨n, rfl⟩ := h
  exact ⟨⟨n, rfl⟩⟩
end Go.Proofs.YtdncmmipopdhbaaDoor.P
end

section
/-
  Walk: nat.cut over limbs that are read.
-/
set_option linter.unusedVariables false
set_option linter.unusedSimpArgs false
namespace Go.Proofs.YtdncmmipopdhbaaDoor.P
open Go.RowKit Go.Proofs.YtdncmmipopdhbaaDoorW.PrintWords Go.Proofs.YtdncmmipopdhbaaDoorW.PrintLast Go.Proofs.YtdncmmipopdhbaaDoorW.PrintMore

theorem info_u32 : (Tryd.prog.info? 46).map (fun i => (i.zero, i.size, i.bytes)) = some (some (.int .u32 0), 1, 4) := by kernel_rfl
/-- How many of the first m limbs are left without limbs 0 at the end. -/
def trn (l : List Int) : Nat → Nat
  | 0 => 0
  | m + 1 => if l.getD m 0 = 0 then trn l m else m + 1
def tr (l : List Int) : List Int := l.take (trn l l.length)
theorem trn_le (l : List Int) : ∀ m, trn l m ≤ m
  | 0 => Nat.le_refl _
  | m + 1 => by
    unfold trn
    split
    · exact Nat.le_succ_of_le (trn_le l m)
    · exact Nat.le_refl _
theorem tr_length (l : List Int) : (tr l).length = trn l l.length := by
  unfold tr
  rw [List.length_take]
  have := trn_le l l.length
  omega
theorem tr_le (l : List Int) : (tr l).length ≤ l.length := by rw [tr_length]; exact trn_le l _
set_option maxHeartbeats 4000000 in
set_option maxRecDepth 100000 in
theorem cut_reads (A : Option Addr) (c : Nat) (l : List Int) (w : World) (hr : K.Rd w .u32 A l) (hc : l.length ≤ c) (hl : l.length ≤ 8192) :
    Calls Tryd.prog 47 #[.slice A l.length c] w fun e w' => e = .returned (.slice A (tr l).length c) ∧ w = w' := by
  have hcut := fun (m : Nat) (h : m ≤ c) => K.cut_to (P := Tryd.prog) 22 46 Tryd.underlying22 info_u32 A l.length c .i64 (m : Int) (by omega) (by omega)
  simp only [Int.toNat_natCast] at hcut
  have HCUT := Lib.hid hcut
  have HTL := Lib.hid (tr_length l)
  clear hcut
  go_enter Tryd.func47, Tryd.ntmps47
  go_wp2
  go_loop [3] (fun s3 => ∃ m : Nat, s3 = .int .i64 m ∧ m ≤ l.length ∧ Hid (trn l m = trn l l.length)) (fun s3 => (intOf s3).toNat)
  case atStart => exact ⟨l.length, rfl, Nat.le_refl _, Lib.hid rfl⟩
  case round =>
    obtain ⟨m, rfl, hm, ht⟩ := hrel
    by_cases h0 : m = 0
    · subst h0
      have hcut := HCUT.out 0 (by omega)
      have e0 : (tr l).length = 0 := by rw [HTL.out, ← ht.out]; rfl
      have E0 := Lib.hid e0
      simp only [Int.natCast_zero] at hcut
      clear e0
      go_wp2
      go_ret
      exact ⟨by rw [E0.out]; rfl, rfl⟩
    · obtain ⟨j, rfl⟩ : ∃ j, m = j + 1 := ⟨m - 1, by omega⟩
      obtain ⟨a, rfl, hcell⟩ := hr.2 (by omega)
      have hcj := hcell j (by omega)
      have hp : (0 : Int) < ((j + 1 : Nat) : Int) := by omega
      have e1 : ((j + 1 : Nat) : Int) - 1 = (j : Int) := by omega
      have hjl : (j : Int) < (l.length : Int) := by omega
      by_cases hz : l.getD j 0 = 0
      · have hz' : (l[j]?.getD 0 == 0) = true := by simpa [List.getD_eq_getElem?_getD] using hz
        have ht' : Hid (trn l j = trn l l.length) := Lib.hid (by rw [← ht.out]; conv => rhs; rw [trn, if_pos hz])
        clear hcell hz ht
        go_wp2
        go_round
        case rel => exact ⟨j, rfl, by omega, ht'⟩
        case measure => simp [intOf]
      · have hz' : (l[j]?.getD 0 == 0) = false := by simpa [List.getD_eq_getElem?_getD] using hz
        have e2 : (tr l).length = j + 1 := by rw [HTL.out, ← ht.out]; conv => lhs; rw [trn, if_neg hz]
        have hcut := HCUT.out (j + 1) (by omega)
        have E2 := Lib.hid e2
        clear hcell hz ht e2 e1
        go_wp2
        go_ret
        exact ⟨by rw [E2.out]; rfl, rfl⟩
end Go.Proofs.YtdncmmipopdhbaaDoor.P
end

section
/-
  Walk: math/bits.Len32.
-/
set_option linter.unusedVariables false
set_option linter.unusedSimpArgs false
namespace Go.Proofs.YtdncmmipopdhbaaDoor.P
open Go.RowKit Go.Proofs.YtdncmmipopdhbaaDoorW.PrintWords Go.Proofs.YtdncmmipopdhbaaDoorW.PrintLast Go.Proofs.YtdncmmipopdhbaaDoorW.PrintMore

theorem blen_shift (x k : Nat) (h : 2 ^ k ≤ x) : blen (x / 2 ^ k) + (k : Int) = blen x := by
  have hx : x ≠ 0 := by have := Nat.two_pow_pos k; omega
  have hp := Nat.two_pow_pos k
  have h1 : 0 < x / 2 ^ k := Nat.div_pos h hp
  have e := (Nat.log2_eq_iff (n := x / 2 ^ k) (k := Nat.log2 (x / 2 ^ k)) (by omega)).1 rfl
  have e2 : Nat.log2 x = Nat.log2 (x / 2 ^ k) + k := by
    refine (Nat.log2_eq_iff hx).2 ⟨?_, ?_⟩
    · rw [Nat.pow_add]
      exact (Nat.le_div_iff_mul_le hp).1 e.1
    · rw [show Nat.log2 (x / 2 ^ k) + k + 1 = Nat.log2 (x / 2 ^ k) + 1 + k by omega, Nat.pow_add]
      exact (Nat.div_lt_iff_lt_mul hp).1 e.2
  unfold blen
  rw [if_neg (by omega), if_neg hx, e2]
  push_cast
  omega
theorem tab_of (S : ByteArray) (hz : S.size = 256) (hS : ((List.range 256).all fun j => decide (((S.data.toList.getD j 0).toNat : Int) = blen j)) = true) (i : Nat) (h : i < S.size) : ((S[i]'h).toNat : Int) = blen i := by
  have e := List.all_eq_true.1 hS i (by simp; omega)
  have e := of_decide_eq_true e
  rw [← e]
  have : S[i] = S.data.toList.getD i 0 := by
    rw [List.getD_eq_getElem?_getD, List.getElem?_eq_getElem (by simpa using h)]
    rfl
  rw [this]
theorem blen_le (n : Nat) (h : n < 256) : 0 ≤ blen n ∧ blen n ≤ 8 := by
  unfold blen
  split
  · omega
  · have := (Nat.log2_lt (by assumption) (k := 8)).2 h
    omega
theorem len_at (S : ByteArray) (hz : S.size = 256) (hS : ((List.range 256).all fun j => decide (((S.data.toList.getD j 0).toNat : Int) = blen j)) = true) (a : Int) (m : Nat) (x k : Nat) (hx : a.toNat = x) (hk : m = x / 2 ^ k) (h2 : 2 ^ k ≤ x ∨ k = 0) (hm : m < 256) (hk3 : k ≤ 24) (h : m < S.size) :
    wrap64 ((k : Int) + wrap64 ((S[m]'h).toNat : Int)) = blen a.toNat := by
  rw [tab_of S hz hS m h]
  have b := blen_le m hm
  have e : blen m + (k : Int) = blen x := by
    rcases h2 with h2 | h2
    · rw [hk]; exact blen_shift x k h2
    · subst h2; rw [hk]; simp
  rw [hx]
  unfold wrap64
  omega
theorem len_at0 (S : ByteArray) (hz : S.size = 256) (hS : ((List.range 256).all fun j => decide (((S.data.toList.getD j 0).toNat : Int) = blen j)) = true) (a : Int) (m : Nat) (hm : m < 256) (hx : a.toNat = m) (h : m < S.size) :
    wrap64 (wrap64 ((S[m]'h).toNat : Int)) = blen a.toNat := by
  rw [tab_of S hz hS m h, hx]
  have b := blen_le m hm
  unfold wrap64
  omega
set_option maxHeartbeats 4000000 in
set_option maxRecDepth 100000 in
theorem bits_Len32.calls (a0 : Int) (r : Int) (w : World) (h : bits_Len32.f a0 = some r) :
    Calls Tryd.prog 48 #[.int .u32 a0] w fun e w' => e = .returned (.int .i64 r) ∧ Drawn0 w w' := by
  unfold bits_Len32.f at h
  split at h
  · rename_i hr
    obtain ⟨h0, h1⟩ := hr
    obtain rfl := Option.some.inj h
    clear h
    by_cases c1 : 65536 ≤ a0
    · by_cases c2 : 256 ≤ a0 / 65536
      · go_enter Tryd.func48, Tryd.ntmps48
        go_wp2
        go_ret
        refine ⟨?_, Drawn0.refl _⟩
        exact congrArg (fun z => Ending.returned (Value.int .i64 z)) (len_at _ (by kernel_rfl) (by kernel_rfl) a0 _ a0.toNat 24 rfl (by omega) (by omega) (by omega) (by omega) _)
      · go_enter Tryd.func48, Tryd.ntmps48
        go_wp2
        go_ret
        refine ⟨?_, Drawn0.refl _⟩
        exact congrArg (fun z => Ending.returned (Value.int .i64 z)) (len_at _ (by kernel_rfl) (by kernel_rfl) a0 _ a0.toNat 16 rfl (by omega) (by omega) (by omega) (by omega) _)
    · by_cases c2 : 256 ≤ a0
      · go_enter Tryd.func48, Tryd.ntmps48
        go_wp2
        go_ret
        refine ⟨?_, Drawn0.refl _⟩
        exact congrArg (fun z => Ending.returned (Value.int .i64 z)) (len_at _ (by kernel_rfl) (by kernel_rfl) a0 _ a0.toNat 8 rfl (by omega) (by omega) (by omega) (by omega) _)
      · go_enter Tryd.func48, Tryd.ntmps48
        go_wp2
        go_ret
        refine ⟨?_, Drawn0.refl _⟩
        exact congrArg (fun z => Ending.returned (Value.int .i64 z)) (len_at0 _ (by kernel_rfl) (by kernel_rfl) a0 a0.toNat (by omega) rfl _)
  · cases h
end Go.Proofs.YtdncmmipopdhbaaDoor.P
end

section
/-
  Rows of limbs as numbers: plain law, no program in sight.
-/
set_option linter.unusedVariables false
set_option linter.unusedSimpArgs false
namespace Go.Proofs.YtdncmmipopdhbaaDoor.P
open Go.RowKit

theorem u32ok_iff (l : List Int) : u32ok l = true ↔ ∀ x ∈ l, 0 ≤ x ∧ x < 4294967296 := by
  unfold u32ok
  rw [List.all_eq_true]
  constructor
  · intro h x hx
    have := h x hx
    simpa using this
  · intro h x hx
    simpa using h x hx
theorem u32ok_cons (x : Int) (l : List Int) : u32ok (x :: l) = true ↔ (0 ≤ x ∧ x < 4294967296) ∧ u32ok l = true := by
  rw [u32ok_iff, u32ok_iff]; simp
theorem u32ok_take (l : List Int) (n : Nat) (h : u32ok l = true) : u32ok (l.take n) = true := by
  rw [u32ok_iff] at h ⊢
  exact fun x hx => h x (List.mem_of_mem_take hx)
theorem u32ok_getD (l : List Int) (h : u32ok l = true) (i : Nat) : 0 ≤ l.getD i 0 ∧ l.getD i 0 < 4294967296 := by
  rw [u32ok_iff] at h
  rw [List.getD_eq_getElem?_getD]
  by_cases hi : i < l.length
  · rw [List.getElem?_eq_getElem hi]; exact h _ (List.getElem_mem hi)
  · rw [List.getElem?_eq_none (by omega)]; exact ⟨by simp, by simp⟩
@[simp] theorem vl_nil : vl [] = 0 := rfl
theorem vl_cons (x : Int) (l : List Int) : vl (x :: l) = x.toNat + 4294967296 * vl l := rfl
theorem vl_append (a b : List Int) : vl (a ++ b) = vl a + 4294967296 ^ a.length * vl b := by
  induction a with
  | nil => simp
  | cons x a ih =>
    rw [List.cons_append, vl_cons, ih, vl_cons, List.length_cons, Nat.pow_succ]
    generalize 4294967296 ^ a.length = p
    rw [Nat.mul_add, Nat.add_assoc]
    congr 2
    rw [← Nat.mul_assoc, Nat.mul_comm p]
theorem vl_lt (l : List Int) (h : u32ok l = true) : vl l < 4294967296 ^ l.length := by
  induction l with
  | nil => simp
  | cons x l ih =>
    obtain ⟨hx, hl⟩ := (u32ok_cons x l).1 h
    have := ih hl
    rw [vl_cons, List.length_cons, Nat.pow_succ]
    omega
/-- The last limb is not 0. -/
def NZ (l : List Int) : Prop := ∀ h : 0 < l.length, l.getD (l.length - 1) 0 ≠ 0
theorem trn_pos (l : List Int) : ∀ m, 0 < trn l m → l.getD (trn l m - 1) 0 ≠ 0
  | 0, h => absurd h (Nat.lt_irrefl 0)
  | m + 1, h => by
    unfold trn at h ⊢
    split
    · rename_i hz
      rw [if_pos hz] at h
      exact trn_pos l m h
    · rename_i hz
      exact hz
theorem trn_zero (l : List Int) : ∀ m i, trn l m ≤ i → i < m → l.getD i 0 = 0
  | 0, i, _, h => absurd h (Nat.not_lt_zero _)
  | m + 1, i, h1, h2 => by
    unfold trn at h1
    split at h1
    · rename_i hz
      rcases Nat.lt_or_ge i m with h | h
      · exact trn_zero l m i h1 h
      · obtain rfl : i = m := by omega
        exact hz
    · omega
theorem tr_nz (l : List Int) : NZ (tr l) := by
  intro h
  rw [tr_length] at h ⊢
  have e : (tr l).getD (trn l l.length - 1) 0 = l.getD (trn l l.length - 1) 0 := by
    unfold tr
    rw [List.getD_eq_getElem?_getD, List.getElem?_take, if_pos (by omega), List.getD_eq_getElem?_getD]
  rw [e]
  exact trn_pos l _ h
theorem vl_zeros (l : List Int) (h : ∀ i, i < l.length → l.getD i 0 = 0) : vl l = 0 := by
  induction l with
  | nil => rfl
  | cons x l ih =>
    have h0 := h 0 (by simp)
    have : x = 0 := by simpa using h0
    rw [vl_cons, this, ih (fun i hi => by have := h (i + 1) (by simp; omega); simpa using this)]
    simp
theorem vl_tr (l : List Int) : vl (tr l) = vl l := by
  have e : l = tr l ++ l.drop (trn l l.length) := (List.take_append_drop _ _).symm
  have hz : vl (l.drop (trn l l.length)) = 0 := vl_zeros _ (fun i hi => by
    rw [List.length_drop] at hi
    have := trn_zero l l.length (trn l l.length + i) (by omega) (by omega)
    rw [List.getD_eq_getElem?_getD, List.getElem?_drop]
    rw [List.getD_eq_getElem?_getD] at this
    exact this)
  conv => rhs; rw [e]
  rw [vl_append, hz]
  omega
theorem tr_ok (l : List Int) (h : u32ok l = true) : u32ok (tr l) = true := u32ok_take _ _ h
theorem nz_tail (x : Int) (l : List Int) (h : NZ (x :: l)) : NZ l := by
  intro hl
  have := h (by simp)
  rw [List.length_cons] at this
  have e : l.length + 1 - 1 = (l.length - 1) + 1 := by omega
  rw [e] at this
  simpa using this
theorem nz_pos (l : List Int) (ho : u32ok l = true) (h : NZ l) (hl : 0 < l.length) : 0 < vl l := by
  induction l with
  | nil => simp at hl
  | cons x l ih =>
    obtain ⟨hx, hl'⟩ := (u32ok_cons x l).1 ho
    rw [vl_cons]
    rcases Nat.eq_zero_or_pos l.length with h0 | h0
    · have : l = [] := List.eq_nil_of_length_eq_zero h0
      subst this
      have := h (by simp)
      have hx0 : x ≠ 0 := by simpa using this
      omega
    · have := ih hl' (nz_tail x l h) h0
      omega
theorem lm_zero : lm 0 = [] := by unfold lm; simp
theorem lm_pos (n : Nat) (h : n ≠ 0) : lm n = ((n % 4294967296 : Nat) : Int) :: lm (n / 4294967296) := by
  rw [lm, dif_neg h]
theorem lm_vl (l : List Int) (ho : u32ok l = true) (h : NZ l) : lm (vl l) = l := by
  induction l with
  | nil => exact lm_zero
  | cons x l ih =>
    have hp := nz_pos _ ho h (by simp)
    obtain ⟨hx, hl'⟩ := (u32ok_cons x l).1 ho
    rw [lm_pos _ (by omega), vl_cons]
    have e1 : (x.toNat + 4294967296 * vl l) % 4294967296 = x.toNat := by omega
    have e2 : (x.toNat + 4294967296 * vl l) / 4294967296 = vl l := by omega
    rw [e1, e2, ih hl' (nz_tail x l h)]
    congr 1
    omega
theorem lm_tr (l : List Int) (ho : u32ok l = true) : lm (vl l) = tr l := by
  rw [← vl_tr, lm_vl _ (tr_ok l ho) (tr_nz l)]
theorem vl_lm (n : Nat) : vl (lm n) = n := by
  induction n using Nat.strongRecOn with
  | _ n ih =>
    by_cases h : n = 0
    · subst h; rw [lm_zero]; rfl
    · rw [lm_pos n h, vl_cons, ih (n / 4294967296) (by omega)]
      omega
theorem lm_ok (n : Nat) : u32ok (lm n) = true := by
  induction n using Nat.strongRecOn with
  | _ n ih =>
    by_cases h : n = 0
    · subst h; rw [lm_zero]; rfl
    · rw [lm_pos n h, u32ok_cons]
      exact ⟨by omega, ih (n / 4294967296) (by omega)⟩
theorem lm_nz (n : Nat) : NZ (lm n) := by
  induction n using Nat.strongRecOn with
  | _ n ih =>
    by_cases h : n = 0
    · subst h; rw [lm_zero]; intro h; simp at h
    · rw [lm_pos n h]
      intro hl
      have hi := ih (n / 4294967296) (by omega)
      rw [List.length_cons, Nat.add_sub_cancel]
      by_cases h2 : n / 4294967296 = 0
      · rw [h2, lm_zero]
        simp
        omega
      · have hp : 0 < (lm (n / 4294967296)).length := by rw [lm_pos _ h2]; simp
        have := hi hp
        obtain ⟨k, hk⟩ : ∃ k, (lm (n / 4294967296)).length = k + 1 := ⟨(lm (n / 4294967296)).length - 1, by omega⟩
        rw [hk] at this ⊢
        simpa using this
theorem lm_length (n k : Nat) (h : n < 4294967296 ^ k) : (lm n).length ≤ k := by
  induction k generalizing n with
  | zero => have : n = 0 := by simpa using h
            subst this; rw [lm_zero]; simp
  | succ k ih =>
    by_cases h0 : n = 0
    · subst h0; rw [lm_zero]; simp
    · rw [lm_pos n h0, List.length_cons]
      have := ih (n / 4294967296) (by rw [Nat.pow_succ] at h; exact (Nat.div_lt_iff_lt_mul (by omega)).2 h)
      omega
/-- A number by its last limb. -/
theorem vl_last (l : List Int) (hl : 0 < l.length) : vl l = vl (l.take (l.length - 1)) + 4294967296 ^ (l.length - 1) * (l.getD (l.length - 1) 0).toNat := by
  have e : l = l.take (l.length - 1) ++ [l.getD (l.length - 1) 0] := by
    conv => lhs; rw [← List.take_append_drop (l.length - 1) l]
    congr 1
    rw [List.drop_eq_getElem_cons (by omega), List.getD_eq_getElem?_getD, List.getElem?_eq_getElem (by omega)]
    rw [List.drop_eq_nil_of_le (by omega)]
    rfl
  have hlen : (l.take (l.length - 1)).length = l.length - 1 := by rw [List.length_take]; omega
  conv => lhs; rw [e]
  rw [vl_append, vl_cons, vl_nil, hlen, Nat.mul_zero, Nat.add_zero]
theorem blen_vl (l : List Int) (ho : u32ok l = true) (h : NZ l) (hl : 0 < l.length) : blen (vl l) = 32 * ((l.length : Int) - 1) + blen (l.getD (l.length - 1) 0).toNat := by
  have ht := u32ok_take l (l.length - 1) ho
  have hlt := vl_lt _ ht
  have hlen : (l.take (l.length - 1)).length = l.length - 1 := by rw [List.length_take]; omega
  rw [hlen] at hlt
  have hx := u32ok_getD l ho (l.length - 1)
  have hnz := h hl
  have e := vl_last l hl
  have e32 : (4294967296 : Nat) ^ (l.length - 1) = 2 ^ (32 * (l.length - 1)) := by rw [Nat.pow_mul]
  have hdiv : vl l / 2 ^ (32 * (l.length - 1)) = (l.getD (l.length - 1) 0).toNat := by
    rw [e, e32, Nat.add_mul_div_left _ _ (Nat.two_pow_pos _), Nat.div_eq_of_lt (by rw [← e32]; exact hlt)]
    omega
  have hge : 2 ^ (32 * (l.length - 1)) ≤ vl l := by
    rw [e, e32]
    have : 1 ≤ (l.getD (l.length - 1) 0).toNat := by omega
    calc 2 ^ (32 * (l.length - 1)) = 2 ^ (32 * (l.length - 1)) * 1 := by omega
      _ ≤ 2 ^ (32 * (l.length - 1)) * (l.getD (l.length - 1) 0).toNat := Nat.mul_le_mul_left _ this
      _ ≤ _ := Nat.le_add_left _ _
  have := blen_shift (vl l) _ hge
  rw [hdiv] at this
  rw [← this]
  push_cast
  omega
theorem blen_le32 (n : Nat) (h : n < 4294967296) : 0 ≤ blen n ∧ blen n ≤ 32 := by
  unfold blen
  split
  · omega
  · have := (Nat.log2_lt (by assumption) (k := 32)).2 h
    omega
theorem vl_len_lt (a b : List Int) (ha : u32ok a = true) (hb : u32ok b = true) (h : NZ b) (hl : a.length < b.length) : vl a < vl b := by
  have h1 := vl_lt a ha
  have e := vl_last b (by omega)
  have hnz := h (by omega)
  have hx := u32ok_getD b hb (b.length - 1)
  have h2 : 4294967296 ^ a.length ≤ 4294967296 ^ (b.length - 1) := Nat.pow_le_pow_right (by omega) (by omega)
  have h3 : 4294967296 ^ (b.length - 1) * 1 ≤ 4294967296 ^ (b.length - 1) * (b.getD (b.length - 1) 0).toNat := Nat.mul_le_mul_left _ (by omega)
  omega
end Go.Proofs.YtdncmmipopdhbaaDoor.P
end

section
/-
  Rows of rows of numbers in memory.
-/
set_option linter.unusedVariables false
set_option linter.unusedSimpArgs false
namespace Go.Proofs.YtdncmmipopdhbaaDoor.P
open Go.RowKit Go.Proofs.YtdncmmipopdhbaaDoorW.PrintWords Go.Proofs.YtdncmmipopdhbaaDoorW.PrintLast Go.Proofs.YtdncmmipopdhbaaDoorW.PrintMore

/-- An element of a row of rows. -/
theorem C_row {T : Nat} {k : IntKind} {w : World} {A : Option Addr} {n : Nat} {ls : List (List Int)} (h : Kd.C (Kd.slice T (Kd.int k)) w A n ls) (i : Nat) (hi : i < ls.length) :
    ∃ ad Ai ci, A = some ad ∧ w.cell? (ad.add i) = some (.slice Ai (ls.getD i []).length ci) ∧ (ls.getD i []).length ≤ ci ∧ K.Rd w k Ai (ls.getD i []) := by
  obtain ⟨h1, h2, h3⟩ := h
  obtain ⟨ad, e, hc⟩ := h3 (by omega)
  obtain ⟨c, hl, hk, hcell⟩ := hc i _ (List.getElem?_eq_getElem hi)
  have hk : ∃ A c_, c = [.slice A (ls[i]).length c_] ∧ (ls[i]).length ≤ c_ ∧ Kd.C (Kd.int k) w A (ls[i]).length ls[i] := hk
  obtain ⟨Ai, ci, rfl, hle, hC⟩ := hk
  have := hcell 0 _ rfl
  have e1 : i * (Kd.slice T (Kd.int k)).sz + 0 = i := by show i * 1 + 0 = i; omega
  rw [e1] at this
  have e2 : ls.getD i [] = ls[i] := by rw [List.getD_eq_getElem?_getD, List.getElem?_eq_getElem hi]; rfl
  rw [e2]
  exact ⟨ad, Ai, ci, e, this, hle, C_rd hC⟩
theorem flat_succ (ls : List (List Int)) (i : Nat) (hi : i < ls.length) : (ls.take (i + 1)).flatten = (ls.take i).flatten ++ ls.getD i [] := by
  rw [List.take_succ_eq_append_getElem hi, List.flatten_append, List.getD_eq_getElem?_getD, List.getElem?_eq_getElem hi]
  simp
theorem flat_le (ls : List (List Int)) (i : Nat) : (ls.take i).flatten.length ≤ ls.flatten.length := by
  conv => rhs; rw [← List.take_append_drop i ls, List.flatten_append, List.length_append]
  omega
theorem info_u8 : (Tryd.prog.info? 5).map (fun i => (i.zero, i.size, i.bytes)) = some (some (.int .u8 0), 1, 1) := by kernel_rfl
section
variable {P : Program} {w : World} {ops : Array Oper} {rest : List Oper} {o : Oper} {a : Act} {Q : Exit → Act → World → Prop}
/-- make([]T, 0, c): the new world has a name. -/
theorem wpList_made (base : Nat) (k : IntKind) (hgd : o.guard = none) (x y : Operand) (t T : TypeId) (bytes : Nat) (ho : o.op = .makeSlice t x y)
    (ht : P.underlying t = some (.slice T)) (hinfo : (P.info? T).map (fun i => (i.zero, i.size, i.bytes)) = some (some (.int k 0), 1, bytes))
    (kl kc : IntKind) (c : Int) (hx : a.eval x = .int kl 0) (hy : a.eval y = .int kc c) (h0 : 0 ≤ c) (hc : (bytes : Int) * c ≤ 281474976710656) (h63 : c ≤ 9223372036854775807) (c' : Nat) (hc' : c.toNat = c') (hbase : base ≤ w.heap.size)
    (h : ∀ A w', K.Own w' base k T (.slice A 0 c') [] → Below w.heap.size w w' → wpList P ops Q rest (a.put o.dst (.slice A 0 c')) w') : wpList P ops Q (o :: rest) a w :=
  K.wpList_make k hgd x y t T bytes ho ht hinfo kl kc 0 c hx hy (Int.le_refl _) h0 hc h63 0 c' rfl hc'
    (h _ _ (K.Own.made w base k T c' hbase (by omega)) (K.below_alloc (Below.refl _ _) _))
end
end Go.Proofs.YtdncmmipopdhbaaDoor.P
end

section
/-
  append(v, make([]T, n)...) on a row of numbers that the call owns.
-/
set_option linter.unusedVariables false
set_option linter.unusedSimpArgs false
namespace Go.Proofs.YtdncmmipopdhbaaDoor.K
open Go.RowKit

theorem zeroCells_nums (k : IntKind) (n : Nat) : Builtin.zeroCells (Value.int k 0).cells n = (nums k (List.replicate n 0)).toArray := by
  apply Array.ext'
  simp only [Builtin.zeroCells, Value.cells, List.size_toArray, List.length_cons, List.length_nil, Nat.mul_one, nums, List.map_replicate]
  apply List.ext_getElem
  · simp
  · intro i h1 h2
    simp [Nat.mod_one]
section
variable {P : Program} {w : World}
theorem apz_run (base : Nat) (k ki : IntKind) (t ti ty T : TypeId) (bytes : Nat) (ht : P.underlying t = some (.slice T)) (hti : P.underlying ti = some (.int ki)) (hinfo : (P.info? T).map (fun i => (i.zero, i.size, i.bytes)) = some (some (.int k 0), 1, bytes)) (hb0 : 0 < bytes)
    (A : Option Addr) (n c : Nat) (l : List Int) (HO : Own w base k T (.slice A n c) l) (hn : l.length = n) (h0 : 0 < n) (m : Nat) (hm : 0 < m) (hl : (n + m) * bytes ≤ 140737488355328) (hbase : base ≤ w.heap.size) :
    ∃ A' c' w', (Builtin.append_ #[t, ti] ty #[.slice A n c, .int .i64 m]).run P w = .ok (.slice A' (n + m) c') w' ∧ Own w' base k T (.slice A' (n + m) c') (l ++ List.replicate m 0) ∧ w.grownBy w' (Value.slice A n c).ownBlock := by
  obtain ⟨i0, hi, hzz⟩ := Option.map_eq_some_iff.1 hinfo
  simp only [Prod.mk.injEq] at hzz
  obtain ⟨hz0, hz1, hz2⟩ := hzz
  have hnm : n + m ≤ 140737488355328 := Nat.le_trans (Nat.le_mul_of_pos_right _ hb0) hl
  have hw : IntKind.i64.wrap (m : Int) = m := wi64 _ (by omega) (by omega)
  have hm0 : ¬ ((m : Int) < 0) := by omega
  have hmb : m * bytes ≤ 140737488355328 := Nat.le_trans (Nat.mul_le_mul_right _ (by omega)) hl
  have hm48 : ¬ (281474976710656 < (m : Int) * (bytes : Int)) := by rw [← Int.natCast_mul]; omega
  have hlen : (l ++ List.replicate m 0).length = n + m := by simp [hn]
  subst hn
  rcases HO.2 with ⟨e, h⟩ | ⟨g, cap, cur, e, hbg, hg, hnc, hcm, hcs, htake⟩
  · omega
  · cases e
    rw [Nat.mul_one] at htake hcs
    have hf : Builtin.zeroCells (Value.int k 0).cells m = (nums k (List.replicate m 0)).toArray := zeroCells_nums k m
    by_cases hroom : l.length + m ≤ c
    · have hst := run_storeCells_at P g l.length T (nums k (List.replicate m 0)) 0 cur w hg (by simp; omega) (fun u hu => by obtain ⟨x, _, rfl⟩ := List.mem_map.1 hu; rfl)
      simp only [Nat.add_zero] at hst
      refine ⟨some ⟨g, 0, none⟩, c, w.setRow g (cur.toList.take l.length ++ nums k (List.replicate m 0) ++ cur.toList.drop (l.length + (nums k (List.replicate m 0)).length)).toArray, ?_, ?_, ⟨rfl, rfl, rfl, by simp, fun j _ hj => setRow_other w g j _ (fun e => hj (by simp [Value.ownBlock, e]))⟩⟩
      · have hmz : ¬ m = 0 := by omega
        simp [Builtin.append_, run_underlying ht, run_underlying hti, sizeOf, typeInfo, hi, hz0, hz1, hz2, zeroValue, asInt, asIntOf, hw, hm0, hm48, hroom, hf, hmz, Addr.add_lit, hst]
      · unfold Own
        rw [hlen]
        refine ⟨by simp, .inr ⟨g, c, _, rfl, hbg, setRow_heap w g cur _ T _ hg, hroom, hcm, ?_, ?_⟩⟩
        · simp; omega
        · simp only [Nat.mul_one]
          rw [htake, ← nums_append, ← hlen, List.take_left' (by simp)]
    · have hmz : ¬ m = 0 := by omega
      have hn' : ¬ (l.length + m ≤ c) := hroom
      have h63' : ¬ (9223372036854775807 < ((l.length : Int) + (m : Int))) := by omega
      have h48' : ¬ (281474976710656 < Builtin.nextslicecap (l.length + m) c * bytes) := by have := growslice_fits (need := l.length + m) (old := c) (bytes := bytes) (by omega) hl; omega
      have holds : ∀ j u, (nums k l)[j]? = some u → w.cell? ((⟨g, 0, none⟩ : Addr).add j) = some u := HO.cells (g := g) rfl
      have hfo := run_firstCells_some (P := P) w.drew 1 l.length ⟨g, 0, none⟩ l.length c (nums k l) (by simp) (by simpa using holds)
      have hcg := grownCap_ge w (l.length + m) c T
      have hcm' : grownCap w (l.length + m) c T ≤ maxLen := grownCap_le_maxLen w (l.length + m) c T (by simp only [maxLen]; omega)
      refine ⟨some ⟨w.heap.size, 0, none⟩, grownCap w (l.length + m) c T, w.drew.alloc (.cells ((nums k l).toArray ++ (nums k (List.replicate m 0)).toArray ++ Builtin.zeroCells (Value.int k 0).cells (grownCap w (l.length + m) c T - (l.length + m))) T), ?_, ?_, ⟨rfl, rfl, rfl, by simp, fun j hj _ => heap_alloc_old w.drew _ hj⟩⟩
      · simp [Builtin.append_, run_underlying ht, run_underlying hti, sizeOf, typeInfo, hi, hz0, hz1, hz2, zeroValue, asInt, asIntOf, hw, hm0, hm48, hn', h63', h48', Question.forced, hf, hfo, hmz, newRow, grownCap]
        congr 2
        apply Array.ext'
        simp [List.append_assoc]
      · unfold Own
        rw [hlen]
        refine ⟨by simp, .inr ⟨w.heap.size, _, _, rfl, hbase, heap_alloc_new w.drew _, hcg, hcm', ?_, ?_⟩⟩
        · simp [size_zeroCells, Value.cells]; omega
        · simp only [Nat.mul_one]
          rw [Array.toList_append, Array.toList_append, List.append_assoc, ← List.append_assoc, ← nums_append, ← hlen, List.take_left' (by simp)]
variable {ops : Array Oper} {rest : List Oper} {o : Oper} {a : Act} {Q : Exit → Act → World → Prop}
theorem wpList_apz (base : Nat) (k ki : IntKind) (hgd : o.guard = none) (s x : Operand) (t ti T : TypeId) (bytes : Nat)
    (ho : o.op = .call { callee := .builtin .append, args := #[s, x], argTypes := #[t, ti] })
    (ht : P.underlying t = some (.slice T)) (hti : P.underlying ti = some (.int ki)) (hinfo : (P.info? T).map (fun i => (i.zero, i.size, i.bytes)) = some (some (.int k 0), 1, bytes)) (hb0 : 0 < bytes)
    (A : Option Addr) (n c : Nat) (l : List Int) (m : Nat) (hs : a.eval s = .slice A n c) (hx : a.eval x = .int .i64 m) (HO : Own w base k T (.slice A n c) l) (hn : l.length = n) (h0 : 0 < n) (hm : 0 < m) (hl : (n + m) * bytes ≤ 140737488355328) (hbase : base ≤ w.heap.size)
    (h : ∀ A' c' w', Own w' base k T (.slice A' (n + m) c') (l ++ List.replicate m 0) → w.grownBy w' (Value.slice A n c).ownBlock → wpList P ops Q rest (a.put o.dst (.slice A' (n + m) c')) w') : wpList P ops Q (o :: rest) a w := by
  refine wpList_plain hgd fun K hK => ?_
  obtain ⟨A', c', w', hr, h1, h2⟩ := apz_run (P := P) base k ki t ti o.type T bytes ht hti hinfo hb0 A n c l HO hn h0 m hm hl hbase
  unfold Oper.wp execOp
  simp only [ho, resolve, invoke, builtin, Sem.run_bind, Sem.run_pure, Result.andThen_ok, List.map_toArray, List.map_cons, List.map_nil, hs, hx, hr]
  exact hK _ _ (h A' c' w' h1 h2)
theorem wpList_apzn (base : Nat) (k ki : IntKind) (hgd : o.guard = none) (s x : Operand) (t ti T : TypeId) (bytes : Nat)
    (ho : o.op = .call { callee := .builtin .append, args := #[s, x], argTypes := #[t, ti] })
    (ht : P.underlying t = some (.slice T)) (hti : P.underlying ti = some (.int ki)) (hinfo : (P.info? T).map (fun i => (i.zero, i.size, i.bytes)) = some (some (.int k 0), 1, bytes)) (hb0 : 0 < bytes)
    (A : Option Addr) (n c : Nat) (l : List Int) (m : Nat) (hs : a.eval s = .slice A n c) (hx : a.eval x = .int .i64 m) (HO : Own w base k T (.slice A n c) l) (hn : l.length = n) (h0 : 0 < n) (hm : 0 < m) (hl : (n + m) * bytes ≤ 140737488355328) (hbase : base ≤ w.heap.size) (n' : Nat) (hn' : n + m = n')
    (h : ∀ A' c' w', Own w' base k T (.slice A' n' c') (l ++ List.replicate m 0) → w.grownBy w' (Value.slice A n c).ownBlock → wpList P ops Q rest (a.put o.dst (.slice A' n' c')) w') : wpList P ops Q (o :: rest) a w := by
  subst hn'
  exact wpList_apz base k ki hgd s x t ti T bytes ho ht hti hinfo hb0 A n c l m hs hx HO hn h0 hm hl hbase h
end
end Go.Proofs.YtdncmmipopdhbaaDoor.K
end
