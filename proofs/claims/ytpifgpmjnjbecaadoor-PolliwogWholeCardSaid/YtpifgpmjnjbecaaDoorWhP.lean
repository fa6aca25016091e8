/-
  PolliwogWhole in plain words: bytes, words of four bytes, units as bytes. No program is named.
-/
import Derived.Test.YtpifgpmjnjbecaaDoorNum
import Derived.Lib.Strings
import Derived.Lib.Hide
namespace Go.Proofs.YtpifgpmjnjbecaaDoor
open Go.RowKit

namespace Wh
/-- The lowest byte. -/
def byt (x : Int) : UInt8 := UInt8.ofNat (x % 256).toNat
theorem byt_nat (x : Int) : ((byt x).toNat : Int) = x % 256 := by
  unfold byt
  rw [UInt8.toNat_ofNat']
  have : (x % 256).toNat % 2 ^ 8 = (x % 256).toNat := Nat.mod_eq_of_lt (by omega)
  rw [this]
  omega
/-- A word's bytes. -/
def four (x : Int) : List UInt8 := [byt (x / 16777216), byt (x / 65536), byt (x / 256), byt x]
theorem four_len (x : Int) : (four x).length = 4 := rfl
theorem word_four (x : Int) (h0 : 0 ≤ x) (h1 : x ≤ 4294967295) : ((byt (x / 16777216)).toNat : Int) * 16777216 + ((byt (x / 65536)).toNat : Int) * 65536 + ((byt (x / 256)).toNat : Int) * 256 + ((byt x).toNat : Int) = x := by
  rw [byt_nat, byt_nat, byt_nat, byt_nat]
  omega
theorem or_add (a b : Int) (k : Nat) (hk : k ≤ 32) (ha : a % 2 ^ k = 0) (a0 : 0 ≤ a) (a1 : a ≤ 4294967295) (b0 : 0 ≤ b) (b1 : b < 2 ^ k) : bits .or .u32 a b = a + b := by
  obtain ⟨n, rfl⟩ := Int.eq_ofNat_of_zero_le a0
  obtain ⟨m, rfl⟩ := Int.eq_ofNat_of_zero_le b0
  have hk2 : (2 : Nat) ^ k ≤ 2 ^ 32 := Nat.pow_le_pow_right (by omega) hk
  have hm : m < 2 ^ k := by exact_mod_cast b1
  have hn : n % 2 ^ k = 0 := by exact_mod_cast ha
  show IntKind.u32.wrap ((BitVec.ofInt 32 (n : Int) ||| BitVec.ofInt 32 (m : Int)).toNat : Int) = _
  rw [BitVec.ofInt_natCast, BitVec.ofInt_natCast, BitVec.toNat_or, BitVec.toNat_ofNat, BitVec.toNat_ofNat, Nat.mod_eq_of_lt (show n < 2 ^ 32 by omega), Nat.mod_eq_of_lt (show m < 2 ^ 32 by omega)]
  obtain ⟨q, rfl⟩ : ∃ q, n = 2 ^ k * q := ⟨n / 2 ^ k, by have := Nat.div_add_mod n (2 ^ k); omega⟩
  rw [← Nat.two_pow_add_eq_or_of_lt hm]
  have hs : 2 ^ k * q + m < 4294967296 := by
    obtain ⟨j, hj⟩ : ∃ j, k + j = 32 := ⟨32 - k, by omega⟩
    have h2 : 2 ^ k * 2 ^ j = 4294967296 := by rw [← Nat.pow_add, hj]
    have h3 : 2 ^ k * q < 2 ^ k * 2 ^ j := by rw [h2]; omega
    have h4 : q < 2 ^ j := Nat.lt_of_mul_lt_mul_left h3
    have h5 : 2 ^ k * (q + 1) ≤ 2 ^ k * 2 ^ j := Nat.mul_le_mul_left _ h4
    rw [Nat.mul_add, Nat.mul_one, h2] at h5
    omega
  have := IntWalk.u32_in ((2 ^ k * q + m : Nat) : Int) (by omega)
  rw [this]
  omega
theorem or_add64 (a b : Int) (k : Nat) (hk : k ≤ 62) (ha : a % 2 ^ k = 0) (a0 : 0 ≤ a) (a1 : a ≤ 4611686018427387903) (b0 : 0 ≤ b) (b1 : b < 2 ^ k) : bits .or .i64 a b = a + b := by
  obtain ⟨n, rfl⟩ := Int.eq_ofNat_of_zero_le a0
  obtain ⟨m, rfl⟩ := Int.eq_ofNat_of_zero_le b0
  have hk2 : (2 : Nat) ^ k ≤ 2 ^ 62 := Nat.pow_le_pow_right (by omega) hk
  have hm : m < 2 ^ k := by exact_mod_cast b1
  have hn : n % 2 ^ k = 0 := by exact_mod_cast ha
  show IntKind.i64.wrap ((BitVec.ofInt 64 (n : Int) ||| BitVec.ofInt 64 (m : Int)).toNat : Int) = _
  rw [BitVec.ofInt_natCast, BitVec.ofInt_natCast, BitVec.toNat_or, BitVec.toNat_ofNat, BitVec.toNat_ofNat, Nat.mod_eq_of_lt (show n < 2 ^ 64 by omega), Nat.mod_eq_of_lt (show m < 2 ^ 64 by omega)]
  obtain ⟨q, rfl⟩ : ∃ q, n = 2 ^ k * q := ⟨n / 2 ^ k, by have := Nat.div_add_mod n (2 ^ k); omega⟩
  rw [← Nat.two_pow_add_eq_or_of_lt hm]
  have hs : 2 ^ k * q + m < 4611686018427387904 := by
    obtain ⟨j, hj⟩ : ∃ j, k + j = 62 := ⟨62 - k, by omega⟩
    have h2 : 2 ^ k * 2 ^ j = 4611686018427387904 := by rw [← Nat.pow_add, hj]
    have h3 : 2 ^ k * q < 2 ^ k * 2 ^ j := by rw [h2]; omega
    have h4 : q < 2 ^ j := Nat.lt_of_mul_lt_mul_left h3
    have h5 : 2 ^ k * (q + 1) ≤ 2 ^ k * 2 ^ j := Nat.mul_le_mul_left _ h4
    rw [Nat.mul_add, Nat.mul_one, h2] at h5
    omega
  have := IntWalk.i64_in ((2 ^ k * q + m : Nat) : Int) (by omega)
  rw [this]
  omega
theorem xor32_in (a b : Int) : 0 ≤ bits .xor .u32 a b ∧ bits .xor .u32 a b ≤ 4294967295 := by
  show 0 ≤ IntKind.u32.wrap _ ∧ IntKind.u32.wrap _ ≤ 4294967295
  rw [IntKind.wrap_u32]
  omega
theorem xor8_in (a b : Int) : 0 ≤ bits .xor .u8 a b ∧ bits .xor .u8 a b ≤ 255 := by
  show 0 ≤ IntKind.u8.wrap _ ∧ IntKind.u8.wrap _ ≤ 255
  rw [IntKind.wrap_u8]
  omega

/-- Bytes as a text. -/
def B (l : List UInt8) : ByteArray := ⟨l.toArray⟩
theorem B_size (l : List UInt8) : (B l).size = l.length := by simp [B, ByteArray.size]
theorem B_list (l : List UInt8) : (B l).data.toList = l := rfl
theorem B_of (s : ByteArray) : B s.data.toList = s := Lib.mk_data s
theorem B_inj {l m : List UInt8} (h : B l = B m) : l = m := by
  have := congrArg (fun s : ByteArray => s.data.toList) h
  exact this
theorem B_app (l m : List UInt8) : B l ++ B m = B (l ++ m) := by
  show (⟨l.toArray⟩ : ByteArray) ++ ⟨m.toArray⟩ = ⟨(l ++ m).toArray⟩
  apply ByteArray.ext
  rw [ByteArray.data_append]
  simp
theorem B_extract (l : List UInt8) (a b : Nat) : (B l).extract a b = B ((l.drop a).take (b - a)) := by
  rw [← B_of ((B l).extract a b), Lib.extract_data]; rfl
theorem B_front (l m : List UInt8) : (B (l ++ m)).extract 0 l.length = B l := by
  rw [B_extract, List.drop_zero, Nat.sub_zero, List.take_left']
  rfl
theorem B_back (l m : List UInt8) (n : Nat) (h : n = (l ++ m).length) : (B (l ++ m)).extract l.length n = B m := by
  subst h
  rw [B_extract, List.drop_left', List.length_append, Nat.add_sub_cancel_left, List.take_length]
  rfl
theorem B_get (l : List UInt8) (i : Nat) (h : i < (B l).size) : (B l)[i] = l.getD i 0 := by
  have h2 : i < l.length := by rw [← B_size]; exact h
  show l.toArray[i] = _
  simp [List.getD, List.getElem?_eq_getElem h2]

/-- What a kind has. -/
structure Sh where
  data : Int
  sq : Bool
  n : Bool
  list : Int
  ps : Bool
  mr : Bool
  self : Bool
  is : Bool
def shape (k : Int) : Sh :=
  if k = 1 ∨ k = 5 then ⟨64, true, true, 0, false, false, false, true⟩
  else if k = 2 ∨ k = 6 ∨ k = 9 ∨ k = 15 then ⟨0, true, true, 0, false, false, false, true⟩
  else if k = 7 then ⟨64, true, false, 0, false, false, false, true⟩
  else if k = 3 then ⟨64, true, false, 0, false, false, true, true⟩
  else if k = 4 then ⟨0, true, false, 0, false, false, false, true⟩
  else if k = 8 then ⟨200, false, true, 0, false, false, false, true⟩
  else if k = 10 then ⟨0, false, true, 0, true, false, false, true⟩
  else if k = 11 then ⟨0, false, true, -1, true, true, false, true⟩
  else if k = 12 then ⟨0, false, true, 2, false, true, false, true⟩
  else if k = 13 ∨ k = 14 then ⟨200, false, false, 0, false, false, false, true⟩
  else ⟨0, false, false, 0, false, false, false, false⟩
/-- A unit. -/
structure P where
  kind : Int
  sq : Int
  n : Int
  ps : Int
  mr : Int
  l : List Int
  self : Bool
  data : ByteArray
def low (x : Int) : Bool := x == x % 16777216
def listOk (s : Sh) (p : P) : Bool := ((p.l.length : Int) == s.list) || (decide (s.list < 0) && ((p.l.length : Int) % 2 == 0))
def allOk (p : P) : Bool := low p.n && (low p.ps && (low p.mr && !(p.l.any fun x => !low x)))
def someOk (s : Sh) (p : P) : Bool := (decide (0 < s.data) || p.data.toList.isEmpty) && ((s.n || p.n == 0) && ((s.ps || p.ps == 0) && ((s.mr || p.mr == 0) && (s.self || !p.self))))
def ckS (s : Sh) (p : P) : Int :=
  if s.is = false then 10
  else if (s.data < (p.data.size : Int) ∧ 0 < s.data) ∨ 128 < p.l.length then 6
  else if listOk s p = false ∨ allOk p = false ∨ someOk s p = false ∨ p.sq < 0 ∨ 255 < p.sq ∨ (s.sq = false ∧ p.sq ≠ 0) then 1
  else 0
def ck (p : P) : Int := ckS (shape p.kind) p
/-- How many bytes 0 stand behind the data. -/
def pad (p : P) : Nat := (4 - p.data.size % 4) % 4
def wordsS (s : Sh) (p : P) : List Int := (if s.sq then [p.sq] else []) ++ (p.l ++ ((if s.ps then [p.ps] else []) ++ (if s.mr then [p.mr] else [])))
def lastW (p : P) : Int := (pad p : Int) * 1073741824 + (if p.self then 536870912 else 0) + p.kind * 16777216 + p.n
def front (p : P) : List UInt8 := p.data.data.toList ++ List.replicate (pad p) 0
def bytesS (s : Sh) (p : P) : List UInt8 := front p ++ ((wordsS s p).flatMap four ++ four (lastW p))
def bytes (p : P) : List UInt8 := if ck p = 0 then bytesS (shape p.kind) p else []

theorem fours_len (l : List Int) : (l.flatMap four).length = 4 * l.length := by
  induction l with
  | nil => rfl
  | cons x l ih => rw [List.flatMap_cons, List.length_append, ih, four_len, List.length_cons]; omega
theorem front_len (p : P) : (front p).length = p.data.size + pad p := by
  unfold front
  rw [List.length_append, List.length_replicate, Array.length_toList]
  rfl
theorem pad_lt (p : P) : pad p < 4 := by unfold pad; omega
theorem front_4 (p : P) : (front p).length % 4 = 0 := by
  rw [front_len]
  unfold pad
  omega
theorem bytesS_len (s : Sh) (p : P) : (bytesS s p).length = p.data.size + pad p + 4 * (wordsS s p).length + 4 := by
  unfold bytesS
  rw [List.length_append, List.length_append, front_len, fours_len, four_len]
  omega

/-- What a shape is like. -/
structure ShOk (s : Sh) : Prop where
  list : s.list = 0 ∨ (s.list = -1 ∧ s.data = 0 ∧ s.sq = false) ∨ s.list = 2
  data : 0 ≤ s.data ∧ s.data ≤ 200
theorem shape_ok (k : Int) : ShOk (shape k) := by
  unfold shape
  repeat' split
  all_goals constructor <;> simp
theorem shape_is (k : Int) (h : (shape k).is = true) : 1 ≤ k ∧ k ≤ 15 := by
  unfold shape at h
  repeat' split at h
  all_goals first | omega | (simp at h)

/-- A unit that may be. -/
structure Ok (s : Sh) (p : P) : Prop where
  is : s.is = true
  big : s.data < (p.data.size : Int) → ¬ 0 < s.data
  ll : p.l.length ≤ 128
  list : listOk s p = true
  all : allOk p = true
  some_ : someOk s p = true
  sq0 : 0 ≤ p.sq
  sq1 : p.sq ≤ 255
  sqn : s.sq = false → p.sq = 0
theorem ok_of (s : Sh) (p : P) (h : ckS s p = 0) : Ok s p := by
  unfold ckS at h
  split at h
  · omega
  · rename_i h1
    split at h
    · omega
    · rename_i h2
      split at h
      · omega
      · rename_i h3
        simp only [not_or, not_and, Bool.not_eq_false, Int.not_lt, Decidable.not_not] at h1 h2 h3
        obtain ⟨a1, a2, a3, a4, a5, a6⟩ := h3
        exact ⟨h1, fun h => by have := h2.1 h; omega, by omega, a1, a2, a3, a4, a5, a6⟩
theorem ck_of (s : Sh) (p : P) (h : Ok s p) : ckS s p = 0 := by
  unfold ckS
  rw [if_neg (by simp [h.is]), if_neg (by
    rintro (⟨a, b⟩ | a)
    · exact h.big a b
    · have := h.ll; omega), if_neg]
  rintro (a | a | a | a | a | a)
  · rw [h.list] at a; cases a
  · rw [h.all] at a; cases a
  · rw [h.some_] at a; cases a
  · have := h.sq0; omega
  · have := h.sq1; omega
  · exact a.2 (h.sqn a.1)
theorem ck_cases (s : Sh) (p : P) : ckS s p = 0 ∨ ckS s p = 1 ∨ ckS s p = 6 ∨ ckS s p = 10 := by
  unfold ckS
  repeat' split
  all_goals simp
theorem low_lt (x : Int) (h : low x = true) : 0 ≤ x ∧ x < 16777216 := by
  unfold low at h
  have := of_decide_eq_true (p := x = x % 16777216) (by simpa using h)
  omega
section
variable {s : Sh} {p : P} (h : Ok s p)
include h
theorem Ok.n : 0 ≤ p.n ∧ p.n < 16777216 := by
  have := h.all
  unfold allOk at this
  simp only [Bool.and_eq_true] at this
  exact low_lt _ this.1
theorem Ok.ps : 0 ≤ p.ps ∧ p.ps < 16777216 := by
  have := h.all
  unfold allOk at this
  simp only [Bool.and_eq_true] at this
  exact low_lt _ this.2.1
theorem Ok.mr : 0 ≤ p.mr ∧ p.mr < 16777216 := by
  have := h.all
  unfold allOk at this
  simp only [Bool.and_eq_true] at this
  exact low_lt _ this.2.2.1
theorem Ok.l : ∀ x ∈ p.l, 0 ≤ x ∧ x < 16777216 := by
  have := h.all
  unfold allOk at this
  simp only [Bool.and_eq_true] at this
  intro x hx
  have h4 := this.2.2.2
  simp only [Bool.not_eq_true', List.any_eq_false, Bool.not_eq_true, Bool.not_eq_false'] at h4
  exact low_lt _ (by simpa using h4 x hx)
theorem Ok.dsize (hs : ShOk s) : p.data.size ≤ 200 := by
  have h1 := h.big
  have h2 := h.some_
  have h3 := hs.data
  unfold someOk at h2
  simp only [Bool.and_eq_true, Bool.or_eq_true, decide_eq_true_eq] at h2
  rcases h2.1 with a | a
  · have : ¬ s.data < (p.data.size : Int) := fun b => h1 b a
    omega
  · have : p.data.data.toList = [] := by rw [← Lib.toList_data]; simpa using a
    have e := Lib.size_eq p.data
    rw [this] at e
    have e2 : p.data.size = 0 := by simpa using e
    omega
theorem Ok.psn (hp : s.ps = false) : p.ps = 0 := by
  have h2 := h.some_
  unfold someOk at h2
  simp only [Bool.and_eq_true, Bool.or_eq_true, beq_iff_eq] at h2
  rcases h2.2.2.1 with a | a
  · rw [hp] at a; cases a
  · exact a
theorem Ok.mrn (hp : s.mr = false) : p.mr = 0 := by
  have h2 := h.some_
  unfold someOk at h2
  simp only [Bool.and_eq_true, Bool.or_eq_true, beq_iff_eq] at h2
  rcases h2.2.2.2.1 with a | a
  · rw [hp] at a; cases a
  · exact a
theorem Ok.dnil (hd : s.data = 0) : p.data.size = 0 := by
  have h2 := h.some_
  unfold someOk at h2
  simp only [Bool.and_eq_true, Bool.or_eq_true, decide_eq_true_eq] at h2
  rcases h2.1 with a | a
  · omega
  · have : p.data.data.toList = [] := by rw [← Lib.toList_data]; simpa using a
    have e := Lib.size_eq p.data
    rw [this] at e
    simpa using e
theorem Ok.ln (hl : 0 ≤ s.list) : (p.l.length : Int) = s.list := by
  have h2 := h.list
  unfold listOk at h2
  simp only [Bool.or_eq_true, Bool.and_eq_true, decide_eq_true_eq, beq_iff_eq] at h2
  rcases h2 with a | a
  · exact a
  · omega
end
end Wh
end Go.Proofs.YtpifgpmjnjbecaaDoor
