/- SHA-256 in plain Lean over words of 32 bits, and how the model's numbers are these words. No program. -/
import Derived.Laws.BitsAllLaws
import Derived.Below
namespace Go.Proofs.YtkbcilfcfbfiaaaDoor
open Go Go.RowKit
set_option linter.unusedVariables false

/-- A word as the number that the model has. -/
def V (x : BitVec 32) : Int := (x.toNat : Int)
theorem V_nonneg (x : BitVec 32) : 0 ≤ V x := by unfold V; omega
theorem V_lt (x : BitVec 32) : V x < 4294967296 := by unfold V; have := x.isLt; omega
theorem V_inj {x y : BitVec 32} (h : V x = V y) : x = y := BitVec.eq_of_toNat_eq (by unfold V at h; omega)
theorem V_add (x y : BitVec 32) : (V x + V y) % 4294967296 = V (x + y) := by
  unfold V; rw [BitVec.toNat_add]; omega
theorem V_add3 (x y z : BitVec 32) : (V x + V y + V z) % 4294967296 = V (x + y + z) := by
  rw [← V_add, ← V_add]; omega
theorem V_add4 (x y z u : BitVec 32) : (V x + V y + V z + V u) % 4294967296 = V (x + y + z + u) := by
  rw [← V_add, ← V_add3]; omega
theorem V_add5 (x y z u v : BitVec 32) : (V x + V y + V z + V u + V v) % 4294967296 = V (x + y + z + u + v) := by
  rw [← V_add, ← V_add4]; omega
theorem V_xor (x y : BitVec 32) : bits .xor .u32 (V x) (V y) = V (x ^^^ y) := by
  unfold V; rw [u32_xor_nat _ _ x.isLt y.isLt, BitVec.toNat_xor]
theorem V_or (x y : BitVec 32) : bits .or .u32 (V x) (V y) = V (x ||| y) := by
  unfold V; rw [u32_or_nat _ _ x.isLt y.isLt, BitVec.toNat_or]
theorem V_and (x y : BitVec 32) : bits .and .u32 (V x) (V y) = V (x &&& y) := by
  unfold V; rw [u32_and_nat _ _ x.isLt y.isLt, BitVec.toNat_and]
theorem V_shr (x : BitVec 32) (n m : Nat) (h : m = 2 ^ n) : V x / (m : Int) = V (x >>> n) := by
  subst h; unfold V; rw [BitVec.toNat_ushiftRight, Nat.shiftRight_eq_div_pow]; omega
theorem V_shl (x : BitVec 32) (n m : Nat) (h : m = 2 ^ n) : V x * (m : Int) % 4294967296 = V (x <<< n) := by
  subst h; unfold V; rw [BitVec.toNat_shiftLeft, Nat.shiftLeft_eq, show 2 ^ 32 = 4294967296 from rfl]; omega
theorem V_not (x : BitVec 32) : 4294967295 - V x = V (~~~x) := by
  unfold V; rw [BitVec.toNat_not]; have := x.isLt; omega

def rotr (x : BitVec 32) (n : Nat) : BitVec 32 := (x >>> n) ||| (x <<< (32 - n))
theorem rotr_comm (x : BitVec 32) (n : Nat) : (x <<< (32 - n)) ||| (x >>> n) = rotr x n := BitVec.or_comm _ _

/-- A byte behind a word. -/
def push (x : BitVec 32) (c : UInt8) : BitVec 32 := (x <<< 8) ||| BitVec.ofNat 32 c.toNat
theorem V_byte (c : UInt8) : (c.toNat : Int) = V (BitVec.ofNat 32 c.toNat) := by
  unfold V
  have : c.toNat < 256 := c.toNat_lt
  rw [BitVec.toNat_ofNat, Nat.mod_eq_of_lt (by omega)]
theorem V_push (x : BitVec 32) (c : UInt8) : bits .or .u32 (V (x <<< 8)) (c.toNat : Int) = V (push x c) := by
  rw [V_byte, V_or]; rfl

theorem V_push' (x : BitVec 32) (c : UInt8) : bits .or .u32 (V x * 256 % 4294967296) ((c.toNat : Int) % 4294967296) = V (push x c) := by
  rw [← V_push, ← V_shl x 8 256 rfl]
  have : c.toNat < 256 := c.toNat_lt
  congr 1
  omega
/-- The first i bytes of word t of a block. -/
def pw (b : List UInt8) (t : Nat) : Nat → BitVec 32
  | 0 => 0
  | i + 1 => push (pw b t i) (b.getD (4 * t + i) 0)
def word (b : List UInt8) (t : Nat) : BitVec 32 := pw b t 4

def sig0 (x : BitVec 32) : BitVec 32 := rotr x 7 ^^^ rotr x 18 ^^^ x >>> 3
def sig1 (x : BitVec 32) : BitVec 32 := rotr x 17 ^^^ rotr x 19 ^^^ x >>> 10

theorem getD_left {α : Type} (l r : List α) (n : Nat) (d : α) (h : n < l.length) : (l ++ r).getD n d = l.getD n d := by
  rw [List.getD_eq_getElem?_getD, List.getD_eq_getElem?_getD, List.getElem?_append_left h]
theorem getD_last {α : Type} (l : List α) (x d : α) (n : Nat) (h : l.length = n) : (l ++ [x]).getD n d = x := by
  subst h
  rw [List.getD_eq_getElem?_getD, List.getElem?_append_right (Nat.le_refl _)]
  simp
theorem sig0_form (x : BitVec 32) : bits .xor .u32 (bits .xor .u32 (V (rotr x 7)) (V (rotr x 18))) (V x / (8 : Int)) = V (sig0 x) := by
  have e : V x / (8 : Int) = V (x >>> 3) := V_shr x 3 8 rfl
  rw [e, V_xor, V_xor]; rfl
theorem sig1_form (x : BitVec 32) : bits .xor .u32 (bits .xor .u32 (V (rotr x 17)) (V (rotr x 19))) (V x / (1024 : Int)) = V (sig1 x) := by
  have e : V x / (1024 : Int) = V (x >>> 10) := V_shr x 10 1024 rfl
  rw [e, V_xor, V_xor]; rfl
/-- The first t words of a block's sixty-four. -/
def wl (b : List UInt8) : Nat → List (BitVec 32)
  | 0 => []
  | t + 1 => wl b t ++ [if t < 16 then word b t else sig1 ((wl b t).getD (t - 2) 0) + (wl b t).getD (t - 7) 0 + sig0 ((wl b t).getD (t - 15) 0) + (wl b t).getD (t - 16) 0]
theorem wl_length (b : List UInt8) (t : Nat) : (wl b t).length = t := by
  induction t with
  | zero => rfl
  | succ t ih => simp [wl, ih]
theorem wl_get (b : List UInt8) {n t : Nat} (h : t < n) : (wl b n).getD t 0 = (wl b (t + 1)).getD t 0 := by
  induction n with
  | zero => omega
  | succ n ih =>
    by_cases e : t = n
    · subst e; rfl
    · have hl := wl_length b n
      rw [← ih (by omega)]
      show (wl b n ++ _).getD t 0 = _
      rw [getD_left _ _ _ _ (by omega)]
def wd (b : List UInt8) (t : Nat) : BitVec 32 := (wl b (t + 1)).getD t 0
theorem wd_low (b : List UInt8) {t : Nat} (h : t < 16) : wd b t = word b t := by
  have hl := wl_length b t
  unfold wd
  show (wl b t ++ _).getD t 0 = _
  rw [getD_last _ _ _ _ hl, if_pos h]
theorem wd_high (b : List UInt8) {t : Nat} (h : 16 ≤ t) : wd b t = sig1 (wd b (t - 2)) + wd b (t - 7) + sig0 (wd b (t - 15)) + wd b (t - 16) := by
  have hl := wl_length b t
  unfold wd
  rw [← wl_get b (n := t) (t := t - 2) (by omega), ← wl_get b (n := t) (t := t - 7) (by omega), ← wl_get b (n := t) (t := t - 15) (by omega), ← wl_get b (n := t) (t := t - 16) (by omega)]
  show (wl b t ++ _).getD t 0 = _
  rw [getD_last _ _ _ _ hl, if_neg (by omega)]

/-- The state of the sum. -/
structure S8 where
  a : BitVec 32
  b : BitVec 32
  c : BitVec 32
  d : BitVec 32
  e : BitVec 32
  f : BitVec 32
  g : BitVec 32
  h : BitVec 32

def kl : List (BitVec 32) := [1116352408, 1899447441, 3049323471, 3921009573, 961987163, 1508970993, 2453635748, 2870763221, 3624381080, 310598401, 607225278, 1426881987, 1925078388, 2162078206, 2614888103, 3248222580, 3835390401, 4022224774, 264347078, 604807628, 770255983, 1249150122, 1555081692, 1996064986, 2554220882, 2821834349, 2952996808, 3210313671, 3336571891, 3584528711, 113926993, 338241895, 666307205, 773529912, 1294757372, 1396182291, 1695183700, 1986661051, 2177026350, 2456956037, 2730485921, 2820302411, 3259730800, 3345764771, 3516065817, 3600352804, 4094571909, 275423344, 430227734, 506948616, 659060556, 883997877, 958139571, 1322822218, 1537002063, 1747873779, 1955562222, 2024104815, 2227730452, 2361852424, 2428436474, 2756734187, 3204031479, 3329325298]
def kc (t : Nat) : BitVec 32 := kl.getD t 0

def t1 (s : S8) (k w : BitVec 32) : BitVec 32 := s.h + (rotr s.e 6 ^^^ rotr s.e 11 ^^^ rotr s.e 25) + ((s.e &&& s.f) ^^^ (~~~s.e &&& s.g)) + k + w
def t2 (s : S8) : BitVec 32 := (rotr s.a 2 ^^^ rotr s.a 13 ^^^ rotr s.a 22) + ((s.a &&& s.b) ^^^ (s.a &&& s.c) ^^^ (s.b &&& s.c))
def step (s : S8) (k w : BitVec 32) : S8 := ⟨t1 s k w + t2 s, s.a, s.b, s.c, s.d + t1 s k w, s.e, s.f, s.g⟩
def rounds (s : S8) (b : List UInt8) : Nat → S8
  | 0 => s
  | t + 1 => step (rounds s b t) (kc t) (wd b t)
def S8.plus (x y : S8) : S8 := ⟨x.a + y.a, x.b + y.b, x.c + y.c, x.d + y.d, x.e + y.e, x.f + y.f, x.g + y.g, x.h + y.h⟩
/-- The state behind a block. -/
def compress (s : S8) (b : List UInt8) : S8 := (rounds s b 64).plus s
def s8l (s : S8) : List (BitVec 32) := [s.a, s.b, s.c, s.d, s.e, s.f, s.g, s.h]
def vv (x : BitVec 32) : Value := .int .u32 (V x)
def S8.cells (s : S8) : Array Value := #[vv s.a, vv s.b, vv s.c, vv s.d, vv s.e, vv s.f, vv s.g, vv s.h]
def bb (c : UInt8) : Value := .int .u8 (c.toNat : Int)
end Go.Proofs.YtkbcilfcfbfiaaaDoor
