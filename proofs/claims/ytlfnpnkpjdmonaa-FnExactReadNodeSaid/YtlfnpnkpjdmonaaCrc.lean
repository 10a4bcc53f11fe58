import Derived.Test.YtlfnpnkpjdmonaaTexts
import Derived.Laws.Bits64b
import Derived.Test.YtlfnpnkpjdmonaaCodec
set_option linter.unusedVariables false
set_option linter.unusedSimpArgs false
namespace Go.Proofs.Ytlfnpnkpjdmonaa
open Go.RowKit

/-! ### CRC-32, bit by bit and by a table of sixteen -/
def bitS (s : Nat) : Nat := s / 2 ^^^ 3988292384 * (s % 2)
def bitN : Nat → Nat → Nat
  | 0, s => s
  | n + 1, s => bitS (bitN n s)
def byteS (s c : Nat) : Nat := bitN 8 (s ^^^ c)
def crcF (s : Nat) (l : List UInt8) : Nat := l.foldl (fun s c => byteS s c.toNat) s
def crcM (l : List UInt8) : Nat := crcF 4294967295 l ^^^ 4294967295
theorem poly_bit (s : Nat) : 3988292384 * (s % 2) < 4294967296 := by have : s % 2 < 2 := Nat.mod_lt _ (by omega); omega
theorem bitS_lt {s : Nat} (h : s < 4294967296) : bitS s < 4294967296 := Nat.xor_lt_two_pow (n := 32) (by omega) (poly_bit s)
theorem bitN_lt {s : Nat} (h : s < 4294967296) : ∀ n, bitN n s < 4294967296
  | 0 => h
  | n + 1 => bitS_lt (bitN_lt h n)
theorem byteS_lt {s c : Nat} (h : s < 4294967296) (hc : c < 256) : byteS s c < 4294967296 := bitN_lt (Nat.xor_lt_two_pow (n := 32) h (by omega)) 8
theorem crcF_lt {s : Nat} (h : s < 4294967296) (l : List UInt8) : crcF s l < 4294967296 := by
  induction l generalizing s with
  | nil => exact h
  | cons c l ih => exact ih (byteS_lt h c.toNat_lt)
theorem crcM_lt (l : List UInt8) : crcM l < 4294967296 := Nat.xor_lt_two_pow (n := 32) (crcF_lt (by omega) l) (by omega)
theorem crcF_snoc (s : Nat) (l : List UInt8) (c : UInt8) : crcF s (l ++ [c]) = byteS (crcF s l) c.toNat := by simp [crcF]
theorem crcF_append (s : Nat) (l m : List UInt8) : crcF s (l ++ m) = crcF (crcF s l) m := by simp [crcF]
/-! the step is linear -/
theorem xor_div2 (a b : Nat) : (a ^^^ b) / 2 = a / 2 ^^^ b / 2 := by
  have := Nat.shiftRight_xor_distrib (a := a) (b := b) (i := 1)
  simpa [Nat.shiftRight_eq_div_pow] using this
theorem xor_div16 (a b : Nat) : (a ^^^ b) / 16 = a / 16 ^^^ b / 16 := by
  have := Nat.shiftRight_xor_distrib (a := a) (b := b) (i := 4)
  simpa [Nat.shiftRight_eq_div_pow] using this
theorem xor_mod2 (a b : Nat) : (a ^^^ b) % 2 = a % 2 ^^^ b % 2 := Nat.xor_mod_two_pow (n := 1)
theorem xor_swap (a b c d : Nat) : (a ^^^ b) ^^^ (c ^^^ d) = (a ^^^ c) ^^^ (b ^^^ d) := by
  rw [Nat.xor_assoc, ← Nat.xor_assoc b, Nat.xor_comm b c, Nat.xor_assoc c, ← Nat.xor_assoc]
theorem bitS_xor (a b : Nat) : bitS (a ^^^ b) = bitS a ^^^ bitS b := by
  unfold bitS
  rw [xor_div2, xor_mod2, xor_swap]
  congr 1
  rcases Nat.mod_two_eq_zero_or_one a with h | h <;> rcases Nat.mod_two_eq_zero_or_one b with k | k <;> rw [h, k] <;> simp
theorem bitN_xor (a b : Nat) : ∀ n, bitN n (a ^^^ b) = bitN n a ^^^ bitN n b
  | 0 => rfl
  | n + 1 => by rw [bitN, bitN_xor a b n, bitS_xor]; rfl
theorem bitS_even (m : Nat) : bitS (2 * m) = m := by simp [bitS]
theorem bitN_16 (m : Nat) : bitN 4 (16 * m) = m := by
  show bitS (bitS (bitS (bitS (16 * m)))) = m
  rw [show 16 * m = 2 * (2 * (2 * (2 * m))) from by omega, bitS_even, bitS_even, bitS_even, bitS_even]
theorem split16 (x : Nat) : x = 16 * (x / 16) ^^^ x % 16 := by
  have h := Nat.two_pow_add_eq_or_of_lt (i := 4) (b := x % 16) (Nat.mod_lt _ (by omega)) (x / 16)
  apply Nat.eq_of_testBit_eq
  intro i
  rw [Nat.testBit_xor, show (16 : Nat) = 2 ^ 4 from rfl, Nat.testBit_two_pow_mul, Nat.testBit_mod_two_pow, Nat.testBit_div_two_pow]
  by_cases hi : 4 ≤ i
  · have h1 : ¬ i < 4 := by omega
    simp [hi, h1]
  · have h1 : i < 4 := by omega
    simp [hi, h1]
/-- four bits at once -/
theorem bitN_4 (x : Nat) : bitN 4 x = x / 16 ^^^ bitN 4 (x % 16) := by
  conv => lhs; rw [split16 x]
  rw [bitN_xor, bitN_16]
theorem bitN_add (x : Nat) (m : Nat) : ∀ n, bitN (n + m) x = bitN n (bitN m x)
  | 0 => by rw [Nat.zero_add]; rfl
  | n + 1 => by rw [Nat.succ_add, bitN, bitN_add x m n]; rfl
/-- a byte, as the table takes it -/
theorem byte_table (r c : Nat) (hc : c < 256) : byteS r c = (r / 16 ^^^ bitN 4 ((r ^^^ c) % 16)) / 16 ^^^ bitN 4 (((r / 16 ^^^ bitN 4 ((r ^^^ c) % 16)) ^^^ c / 16) % 16) := by
  unfold byteS
  rw [show (8 : Nat) = 4 + 4 from rfl, bitN_add, bitN_4 (r ^^^ c), xor_div16]
  have e : r / 16 ^^^ c / 16 ^^^ bitN 4 ((r ^^^ c) % 16) = (r / 16 ^^^ bitN 4 ((r ^^^ c) % 16)) ^^^ c / 16 := by
    rw [Nat.xor_assoc, Nat.xor_comm (c / 16), ← Nat.xor_assoc]
  rw [e, bitN_4, xor_div16, show c / 16 / 16 = 0 from by omega, Nat.xor_zero]
/-! the machine's words -/
theorem wrap_u32 (n : Int) : IntKind.u32.wrap n = n % 4294967296 := by simp [IntKind.wrap, IntKind.bits, IntKind.signed]
theorem bits_xor_u32 (a b : Nat) (ha : a < 4294967296) (hb : b < 4294967296) : bits .xor .u32 (a : Int) (b : Int) = ((a ^^^ b : Nat) : Int) := by
  have hx : a ^^^ b < 2 ^ 32 := Nat.xor_lt_two_pow (by omega) (by omega)
  have h1 : (BitVec.ofInt 32 (a : Int)).toNat = a := by
    rw [BitVec.ofInt_natCast, BitVec.toNat_ofNat]; exact Nat.mod_eq_of_lt (by omega)
  have h2 : (BitVec.ofInt 32 (b : Int)).toNat = b := by
    rw [BitVec.ofInt_natCast, BitVec.toNat_ofNat]; exact Nat.mod_eq_of_lt (by omega)
  show IntKind.u32.wrap ((BitVec.ofInt 32 (a : Int) ^^^ BitVec.ofInt 32 (b : Int)).toNat : Int) = _
  rw [BitVec.toNat_xor, h1, h2, wrap_u32]
  omega
theorem bits_and_u32 (a b : Nat) (ha : a < 4294967296) (hb : b < 4294967296) : bits .and .u32 (a : Int) (b : Int) = ((a &&& b : Nat) : Int) := by
  have hx : a &&& b < 2 ^ 32 := Nat.and_lt_two_pow _ (by omega)
  have h1 : (BitVec.ofInt 32 (a : Int)).toNat = a := by
    rw [BitVec.ofInt_natCast, BitVec.toNat_ofNat]; exact Nat.mod_eq_of_lt (by omega)
  have h2 : (BitVec.ofInt 32 (b : Int)).toNat = b := by
    rw [BitVec.ofInt_natCast, BitVec.toNat_ofNat]; exact Nat.mod_eq_of_lt (by omega)
  show IntKind.u32.wrap ((BitVec.ofInt 32 (a : Int) &&& BitVec.ofInt 32 (b : Int)).toNat : Int) = _
  rw [BitVec.toNat_and, h1, h2, wrap_u32]
  omega
theorem bits_xor_i64 (a b : Nat) (ha : a < 4611686018427387904) (hb : b < 4611686018427387904) : bits .xor .i64 (a : Int) (b : Int) = ((a ^^^ b : Nat) : Int) := by
  have hx : a ^^^ b < 2 ^ 62 := Nat.xor_lt_two_pow (by omega) (by omega)
  have h1 : (BitVec.ofInt 64 (a : Int)).toNat = a := by
    rw [BitVec.ofInt_natCast, BitVec.toNat_ofNat]; exact Nat.mod_eq_of_lt (by omega)
  have h2 : (BitVec.ofInt 64 (b : Int)).toNat = b := by
    rw [BitVec.ofInt_natCast, BitVec.toNat_ofNat]; exact Nat.mod_eq_of_lt (by omega)
  show IntKind.i64.wrap ((BitVec.ofInt 64 (a : Int) ^^^ BitVec.ofInt 64 (b : Int)).toNat : Int) = _
  rw [BitVec.toNat_xor, h1, h2]
  exact IntWalk.i64_in _ (by omega)
theorem bits_and_i64 (a b : Nat) (ha : a < 4611686018427387904) (hb : b < 4611686018427387904) : bits .and .i64 (a : Int) (b : Int) = ((a &&& b : Nat) : Int) := by
  have hx : a &&& b < 2 ^ 62 := Nat.and_lt_two_pow _ (by omega)
  have h1 : (BitVec.ofInt 64 (a : Int)).toNat = a := by
    rw [BitVec.ofInt_natCast, BitVec.toNat_ofNat]; exact Nat.mod_eq_of_lt (by omega)
  have h2 : (BitVec.ofInt 64 (b : Int)).toNat = b := by
    rw [BitVec.ofInt_natCast, BitVec.toNat_ofNat]; exact Nat.mod_eq_of_lt (by omega)
  show IntKind.i64.wrap ((BitVec.ofInt 64 (a : Int) &&& BitVec.ofInt 64 (b : Int)).toNat : Int) = _
  rw [BitVec.toNat_and, h1, h2]
  exact IntWalk.i64_in _ (by omega)
theorem and_1 (s : Nat) : s &&& 1 = s % 2 := Nat.and_two_pow_sub_one_eq_mod s 1
theorem and_15 (s : Nat) : s &&& 15 = s % 16 := Nat.and_two_pow_sub_one_eq_mod s 4
/-- one bit, as the program steps it -/
theorem step_u32 (S : Nat) (h : S < 4294967296) : bits .xor .u32 ((S : Int) / 2) (3988292384 * bits .and .u32 (S : Int) 1 % 4294967296) = ((bitS S : Nat) : Int) := by
  rw [show (1 : Int) = ((1 : Nat) : Int) from rfl, bits_and_u32 S 1 h (by omega), and_1]
  have h1 := poly_bit S
  rw [show (3988292384 : Int) * ((S % 2 : Nat) : Int) % 4294967296 = ((3988292384 * (S % 2) : Nat) : Int) from by omega, show (S : Int) / 2 = ((S / 2 : Nat) : Int) from by omega, bits_xor_u32 _ _ (by omega) h1]
  rfl
end Go.Proofs.Ytlfnpnkpjdmonaa
namespace Go.Proofs.Ytlfnpnkpjdmonaa
open Go.RowKit

/-! ### the two sums, walked -/
theorem fin_u32 (S : Nat) (h : S < 4294967296) : bits .xor .u32 IntKind.u32.max (S : Int) = ((S ^^^ 4294967295 : Nat) : Int) := by
  rw [show IntKind.u32.max = ((4294967295 : Nat) : Int) from by decide, bits_xor_u32 _ _ (by omega) h, Nat.xor_comm]
set_option maxRecDepth 100000 in
theorem crc_any (A : Option Addr) (c : Nat) (xs : List UInt8) (w : World) (hx : Rd w w.heap.size A (xs.map bv)) (hl : xs.length ≤ 4611686018427387904) :
    Calls Try.prog 250 #[.slice A xs.length c] w fun e w' => e = .returned (.int .i64 (crcM xs)) ∧ Below w.heap.size w w' := by
  have HX := Lib.hid hx
  clear hx
  go_enter Try.func250, Try.ntmps250
  go_wp2_with fail
  go_loopw [3, 8] (fun s x wr => ∃ (k S : Nat), x = .int .i64 k ∧ s = .int .u32 S ∧ S < 4294967296 ∧ k ≤ xs.length ∧ S = crcF 4294967295 (xs.take k) ∧ Below w.heap.size w wr) (fun _ x _ => xs.length - (intOf x).toNat)
  case atStart => exact ⟨0, 4294967295, rfl, rfl, by omega, by omega, rfl, Below.refl _ _⟩
  case round =>
    obtain ⟨k, S, rfl, rfl, hS, hk, hSe, hb⟩ := hrel
    have HS := Lib.hid hSe
    clear hSe
    by_cases hkl : k < xs.length
    · obtain ⟨ad, rfl, hla, hc⟩ := (HX.out.next hb).at_ (map_at hkl)
      have hcx : xs[k].toNat < 256 := xs[k].toNat_lt
      have hx1 : bits .xor .u32 (S : Int) (xs[k].toNat : Int) = ((S ^^^ xs[k].toNat : Nat) : Int) := bits_xor_u32 _ _ hS (by omega)
      have hx2 : (xs[k].toNat : Int) % 4294967296 = (xs[k].toNat : Int) := by omega
      have hX : S ^^^ xs[k].toNat < 4294967296 := Nat.xor_lt_two_pow (n := 32) hS (by omega)
      obtain ⟨X, hXe⟩ : ∃ X, X = S ^^^ xs[k].toNat := ⟨_, rfl⟩
      rw [← hXe] at hx1 hX
      have HXE := Lib.hid hXe
      clear hXe
      go_wp2_with fail
      go_loopw [3, 16] (fun s x wr' => ∃ (j Y : Nat), x = .int .i64 j ∧ s = .int .u32 Y ∧ Y < 4294967296 ∧ j ≤ 8 ∧ Y = bitN j X ∧ wr' = wr) (fun _ x _ => 8 - (intOf x).toNat)
      case atStart => exact ⟨0, X, rfl, rfl, hX, by omega, rfl, rfl⟩
      case round =>
        obtain ⟨j, Y, rfl, rfl, hY, hj, hYe, rfl⟩ := hrel
        have HY := Lib.hid hYe
        clear hYe
        by_cases hjl : j < 8
        · have hst := step_u32 Y hY
          have hlt := bitS_lt hY
          go_wp2_with fail
          go_roundw
          case rel => exact ⟨j + 1, bitS Y, by go_num, rfl, hlt, by omega, by rw [HY.out]; rfl, by first | rfl | trivial⟩
          case measure => simp [intOf]; omega
        · obtain rfl : j = 8 := by omega
          go_wp2_with fail
          go_roundw
          case rel =>
            refine ⟨k + 1, Y, by go_num, rfl, hY, by omega, ?_, hb⟩
            rw [HY.out, HXE.out, HS.out, List.take_succ_eq_append_getElem hkl, crcF_snoc]
            rfl
          case measure => simp [intOf]; omega
    · obtain rfl : k = xs.length := by omega
      have hf := fin_u32 S hS
      have hr : S ^^^ 4294967295 < 4294967296 := Nat.xor_lt_two_pow (n := 32) hS (by omega)
      have hw : wrap64 ((S ^^^ 4294967295 : Nat) : Int) = ((S ^^^ 4294967295 : Nat) : Int) := by unfold wrap64; omega
      have HE : Hid (S ^^^ 4294967295 = crcM xs) := by
        show _ = _
        rw [HS.out, List.take_length]
        rfl
      obtain ⟨R, hR⟩ : ∃ R, R = S ^^^ 4294967295 := ⟨_, rfl⟩
      rw [← hR] at hf hw HE hr
      clear hR
      go_wp2_with fail
      go_ret
      exact ⟨by rw [← HE.out]; rfl, hb⟩
theorem sumOf_any (l : List UInt8) (w : World) (hl : l.length ≤ 4611686018427387904) : Calls Try.prog 227 #[.string (bs l)] w fun e w' => e = .returned (.int .i64 (crcM l)) ∧ Below w.heap.size w w' := by
  obtain ⟨g, cap, w1, hconv, hb1, hg1, hs1, hr1⟩ := conv_bytes_rd w l
  have HR := Lib.hid hr1
  have HB := Lib.hid hb1
  clear hr1 hb1 hg1
  go_enter Try.func227, Try.ntmps227
  go_wp2_with fail
  refine (crc_any _ cap l _ HR.out hl).mono ?_
  rintro e w2 ⟨rfl, hb2⟩
  have HB2 := Lib.hid (below_after HB.out hb2)
  clear hb2
  go_wp2_with fail
  go_ret
  exact ⟨rfl, HB2.out⟩
end Go.Proofs.Ytlfnpnkpjdmonaa
namespace Go.Proofs.Ytlfnpnkpjdmonaa
open Go.RowKit

/-! ### the document's sum, by a table -/
def tabN (j : Nat) : Nat := bitN 4 j
theorem tabN_lt (j : Nat) (h : j < 16) : tabN j < 4294967296 := bitN_lt (by omega) 4
def tabL (i : Nat) : List Value := (List.range 16).map fun j => if j < i then .int .i64 (tabN j) else .int .i64 0
theorem tabL_len (i : Nat) : (tabL i).length = 16 := by simp [tabL]
theorem tabL_set (i : Nat) (h : i < 16) : (tabL i).set i (.int .i64 (tabN i)) = tabL (i + 1) := by
  apply List.ext_getElem (by simp [tabL])
  intro j h1 h2
  rw [List.getElem_set]
  simp only [tabL, List.getElem_map, List.getElem_range]
  split
  · rename_i e
    subst e
    simp
  · rename_i e
    have : (j < i) = (j < i + 1) := by apply propext; omega
    simp only [this]
theorem tabL_at (i j : Nat) (h : j < 16) (hi : j < i) : (tabL i)[j]? = some (.int .i64 (tabN j)) := by
  rw [List.getElem?_eq_getElem (by rw [tabL_len]; exact h)]
  simp [tabL, hi]
theorem step_i64 (S : Nat) (h : S < 4294967296) : bits .and .i64 (S : Int) 1 = ((S % 2 : Nat) : Int) ∧ IntKind.i64.wrap (((S % 2 : Nat) : Int) * 3988292384) = ((3988292384 * (S % 2) : Nat) : Int) ∧ bits .xor .i64 ((S : Int) / 2) ((S : Int) % 2 * 3988292384) = ((bitS S : Nat) : Int) := by
  have h1 := poly_bit S
  refine ⟨?_, ?_, ?_⟩
  · rw [show (1 : Int) = ((1 : Nat) : Int) from rfl, bits_and_i64 S 1 (by omega) (by omega), and_1]
  · rw [show (((S % 2 : Nat) : Int) * 3988292384) = ((3988292384 * (S % 2) : Nat) : Int) from by omega]
    exact IntWalk.i64_in _ (by omega)
  · rw [show (S : Int) % 2 * 3988292384 = ((3988292384 * (S % 2) : Nat) : Int) from by omega, show (S : Int) / 2 = ((S / 2 : Nat) : Int) from by omega, bits_xor_i64 _ _ (by omega) (by omega)]
    rfl
set_option maxRecDepth 100000 in
theorem l01Table_any (w : World) :
    Calls Try.prog 247 #[] w fun e w' => e = .returned (.agg #[.int .i64 (tabN 0), .int .i64 (tabN 1), .int .i64 (tabN 2), .int .i64 (tabN 3), .int .i64 (tabN 4), .int .i64 (tabN 5), .int .i64 (tabN 6), .int .i64 (tabN 7), .int .i64 (tabN 8), .int .i64 (tabN 9), .int .i64 (tabN 10), .int .i64 (tabN 11), .int .i64 (tabN 12), .int .i64 (tabN 13), .int .i64 (tabN 14), .int .i64 (tabN 15)]) ∧ Below w.heap.size w w' := by
  have HO : Hid (((w.alloc (.cells #[.int .i64 0, .int .i64 0, .int .i64 0, .int .i64 0, .int .i64 0, .int .i64 0, .int .i64 0, .int .i64 0, .int .i64 0, .int .i64 0, .int .i64 0, .int .i64 0, .int .i64 0, .int .i64 0, .int .i64 0, .int .i64 0] 242)).alloc (.cells #[.int .i64 0, .int .i64 0, .int .i64 0, .int .i64 0, .int .i64 0, .int .i64 0, .int .i64 0, .int .i64 0, .int .i64 0, .int .i64 0, .int .i64 0, .int .i64 0, .int .i64 0, .int .i64 0, .int .i64 0, .int .i64 0] 242)).ownsRow w.heap.size 242 1 (.slice (some ⟨w.heap.size + 1, 0, none⟩) 16 16) 16 (tabL 0)) := by
    refine ⟨rfl, .inr ⟨w.heap.size + 1, 16, #[.int .i64 0, .int .i64 0, .int .i64 0, .int .i64 0, .int .i64 0, .int .i64 0, .int .i64 0, .int .i64 0, .int .i64 0, .int .i64 0, .int .i64 0, .int .i64 0, .int .i64 0, .int .i64 0, .int .i64 0, .int .i64 0], rfl, by omega, ?_, by omega, by simp only [maxLen]; omega, rfl, rfl⟩⟩
    have h := heap_alloc_new (w.alloc (.cells #[.int .i64 0, .int .i64 0, .int .i64 0, .int .i64 0, .int .i64 0, .int .i64 0, .int .i64 0, .int .i64 0, .int .i64 0, .int .i64 0, .int .i64 0, .int .i64 0, .int .i64 0, .int .i64 0, .int .i64 0, .int .i64 0] 242)) (.cells #[.int .i64 0, .int .i64 0, .int .i64 0, .int .i64 0, .int .i64 0, .int .i64 0, .int .i64 0, .int .i64 0, .int .i64 0, .int .i64 0, .int .i64 0, .int .i64 0, .int .i64 0, .int .i64 0, .int .i64 0, .int .i64 0] 242)
    simpa using h
  have HZ : Hid (((w.alloc (.cells #[.int .i64 0, .int .i64 0, .int .i64 0, .int .i64 0, .int .i64 0, .int .i64 0, .int .i64 0, .int .i64 0, .int .i64 0, .int .i64 0, .int .i64 0, .int .i64 0, .int .i64 0, .int .i64 0, .int .i64 0, .int .i64 0] 242)).alloc (.cells #[.int .i64 0, .int .i64 0, .int .i64 0, .int .i64 0, .int .i64 0, .int .i64 0, .int .i64 0, .int .i64 0, .int .i64 0, .int .i64 0, .int .i64 0, .int .i64 0, .int .i64 0, .int .i64 0, .int .i64 0, .int .i64 0] 242)).heap[w.heap.size]? = some (.cells #[.int .i64 0, .int .i64 0, .int .i64 0, .int .i64 0, .int .i64 0, .int .i64 0, .int .i64 0, .int .i64 0, .int .i64 0, .int .i64 0, .int .i64 0, .int .i64 0, .int .i64 0, .int .i64 0, .int .i64 0, .int .i64 0] 242 (0, 0))) := (Lib.alloc_old _ _ _ (by simp)).trans (heap_alloc_new _ _)
  have HB : Hid (Below w.heap.size w ((w.alloc (.cells #[.int .i64 0, .int .i64 0, .int .i64 0, .int .i64 0, .int .i64 0, .int .i64 0, .int .i64 0, .int .i64 0, .int .i64 0, .int .i64 0, .int .i64 0, .int .i64 0, .int .i64 0, .int .i64 0, .int .i64 0, .int .i64 0] 242)).alloc (.cells #[.int .i64 0, .int .i64 0, .int .i64 0, .int .i64 0, .int .i64 0, .int .i64 0, .int .i64 0, .int .i64 0, .int .i64 0, .int .i64 0, .int .i64 0, .int .i64 0, .int .i64 0, .int .i64 0, .int .i64 0, .int .i64 0] 242))) := by show Below _ _ _; repeat (first | exact Below.refl _ _ | assumption | refine Below.drew ?_ | refine below_drewN ?_ _ | refine Below.setCell ?_ (by first | exact Nat.le_refl _ | exact Below.size (by assumption) | (simp; done) | (simp; omega) | omega) _ | refine Below.alloc ?_ (by first | exact Nat.le_refl _ | exact Below.size (by assumption) | (simp; done) | (simp; omega) | omega) _)
  have HO : Hid (((w.alloc (.cells #[.int .i64 0, .int .i64 0, .int .i64 0, .int .i64 0, .int .i64 0, .int .i64 0, .int .i64 0, .int .i64 0, .int .i64 0, .int .i64 0, .int .i64 0, .int .i64 0, .int .i64 0, .int .i64 0, .int .i64 0, .int .i64 0] 242)).alloc (.cells #[.int .i64 0, .int .i64 0, .int .i64 0, .int .i64 0, .int .i64 0, .int .i64 0, .int .i64 0, .int .i64 0, .int .i64 0, .int .i64 0, .int .i64 0, .int .i64 0, .int .i64 0, .int .i64 0, .int .i64 0, .int .i64 0] 242)).ownsRow w.heap.size 242 1 (.slice (some ⟨w.heap.size + 1, 0, none⟩) 16 16) 16 (tabL 0)) := by
    refine ⟨rfl, .inr ⟨w.heap.size + 1, 16, #[.int .i64 0, .int .i64 0, .int .i64 0, .int .i64 0, .int .i64 0, .int .i64 0, .int .i64 0, .int .i64 0, .int .i64 0, .int .i64 0, .int .i64 0, .int .i64 0, .int .i64 0, .int .i64 0, .int .i64 0, .int .i64 0], rfl, by omega, ?_, by omega, by simp only [maxLen]; omega, rfl, rfl⟩⟩
    have h := heap_alloc_new (w.alloc (.cells #[.int .i64 0, .int .i64 0, .int .i64 0, .int .i64 0, .int .i64 0, .int .i64 0, .int .i64 0, .int .i64 0, .int .i64 0, .int .i64 0, .int .i64 0, .int .i64 0, .int .i64 0, .int .i64 0, .int .i64 0, .int .i64 0] 242)) (.cells #[.int .i64 0, .int .i64 0, .int .i64 0, .int .i64 0, .int .i64 0, .int .i64 0, .int .i64 0, .int .i64 0, .int .i64 0, .int .i64 0, .int .i64 0, .int .i64 0, .int .i64 0, .int .i64 0, .int .i64 0, .int .i64 0] 242)
    simpa using h
  have HZ : Hid (((w.alloc (.cells #[.int .i64 0, .int .i64 0, .int .i64 0, .int .i64 0, .int .i64 0, .int .i64 0, .int .i64 0, .int .i64 0, .int .i64 0, .int .i64 0, .int .i64 0, .int .i64 0, .int .i64 0, .int .i64 0, .int .i64 0, .int .i64 0] 242)).alloc (.cells #[.int .i64 0, .int .i64 0, .int .i64 0, .int .i64 0, .int .i64 0, .int .i64 0, .int .i64 0, .int .i64 0, .int .i64 0, .int .i64 0, .int .i64 0, .int .i64 0, .int .i64 0, .int .i64 0, .int .i64 0, .int .i64 0] 242)).heap[w.heap.size]? = some (.cells #[.int .i64 0, .int .i64 0, .int .i64 0, .int .i64 0, .int .i64 0, .int .i64 0, .int .i64 0, .int .i64 0, .int .i64 0, .int .i64 0, .int .i64 0, .int .i64 0, .int .i64 0, .int .i64 0, .int .i64 0, .int .i64 0] 242 (0, 0))) := (Lib.alloc_old _ _ _ (by simp)).trans (heap_alloc_new _ _)
  have HB : Hid (Below w.heap.size w ((w.alloc (.cells #[.int .i64 0, .int .i64 0, .int .i64 0, .int .i64 0, .int .i64 0, .int .i64 0, .int .i64 0, .int .i64 0, .int .i64 0, .int .i64 0, .int .i64 0, .int .i64 0, .int .i64 0, .int .i64 0, .int .i64 0, .int .i64 0] 242)).alloc (.cells #[.int .i64 0, .int .i64 0, .int .i64 0, .int .i64 0, .int .i64 0, .int .i64 0, .int .i64 0, .int .i64 0, .int .i64 0, .int .i64 0, .int .i64 0, .int .i64 0, .int .i64 0, .int .i64 0, .int .i64 0, .int .i64 0] 242))) := by show Below _ _ _; repeat (first | exact Below.refl _ _ | assumption | refine Below.drew ?_ | refine below_drewN ?_ _ | refine Below.setCell ?_ (by first | exact Nat.le_refl _ | exact Below.size (by assumption) | (simp; done) | (simp; omega) | omega) _ | refine Below.alloc ?_ (by first | exact Nat.le_refl _ | exact Below.size (by assumption) | (simp; done) | (simp; omega) | omega) _)
  have HO : Hid (((w.alloc (.cells #[.int .i64 0, .int .i64 0, .int .i64 0, .int .i64 0, .int .i64 0, .int .i64 0, .int .i64 0, .int .i64 0, .int .i64 0, .int .i64 0, .int .i64 0, .int .i64 0, .int .i64 0, .int .i64 0, .int .i64 0, .int .i64 0] 242)).alloc (.cells #[.int .i64 0, .int .i64 0, .int .i64 0, .int .i64 0, .int .i64 0, .int .i64 0, .int .i64 0, .int .i64 0, .int .i64 0, .int .i64 0, .int .i64 0, .int .i64 0, .int .i64 0, .int .i64 0, .int .i64 0, .int .i64 0] 242)).ownsRow w.heap.size 242 1 (.slice (some ⟨w.heap.size + 1, 0, none⟩) 16 16) 16 (tabL 0)) := by
    refine ⟨rfl, .inr ⟨w.heap.size + 1, 16, #[.int .i64 0, .int .i64 0, .int .i64 0, .int .i64 0, .int .i64 0, .int .i64 0, .int .i64 0, .int .i64 0, .int .i64 0, .int .i64 0, .int .i64 0, .int .i64 0, .int .i64 0, .int .i64 0, .int .i64 0, .int .i64 0], rfl, by omega, ?_, by omega, by simp only [maxLen]; omega, rfl, rfl⟩⟩
    have h := heap_alloc_new (w.alloc (.cells #[.int .i64 0, .int .i64 0, .int .i64 0, .int .i64 0, .int .i64 0, .int .i64 0, .int .i64 0, .int .i64 0, .int .i64 0, .int .i64 0, .int .i64 0, .int .i64 0, .int .i64 0, .int .i64 0, .int .i64 0, .int .i64 0] 242)) (.cells #[.int .i64 0, .int .i64 0, .int .i64 0, .int .i64 0, .int .i64 0, .int .i64 0, .int .i64 0, .int .i64 0, .int .i64 0, .int .i64 0, .int .i64 0, .int .i64 0, .int .i64 0, .int .i64 0, .int .i64 0, .int .i64 0] 242)
    simpa using h
  have HZ : Hid (((w.alloc (.cells #[.int .i64 0, .int .i64 0, .int .i64 0, .int .i64 0, .int .i64 0, .int .i64 0, .int .i64 0, .int .i64 0, .int .i64 0, .int .i64 0, .int .i64 0, .int .i64 0, .int .i64 0, .int .i64 0, .int .i64 0, .int .i64 0] 242)).alloc (.cells #[.int .i64 0, .int .i64 0, .int .i64 0, .int .i64 0, .int .i64 0, .int .i64 0, .int .i64 0, .int .i64 0, .int .i64 0, .int .i64 0, .int .i64 0, .int .i64 0, .int .i64 0, .int .i64 0, .int .i64 0, .int .i64 0] 242)).heap[w.heap.size]? = some (.cells #[.int .i64 0, .int .i64 0, .int .i64 0, .int .i64 0, .int .i64 0, .int .i64 0, .int .i64 0, .int .i64 0, .int .i64 0, .int .i64 0, .int .i64 0, .int .i64 0, .int .i64 0, .int .i64 0, .int .i64 0, .int .i64 0] 242 (0, 0))) := (Lib.alloc_old _ _ _ (by simp)).trans (heap_alloc_new _ _)
  have HB : Hid (Below w.heap.size w ((w.alloc (.cells #[.int .i64 0, .int .i64 0, .int .i64 0, .int .i64 0, .int .i64 0, .int .i64 0, .int .i64 0, .int .i64 0, .int .i64 0, .int .i64 0, .int .i64 0, .int .i64 0, .int .i64 0, .int .i64 0, .int .i64 0, .int .i64 0] 242)).alloc (.cells #[.int .i64 0, .int .i64 0, .int .i64 0, .int .i64 0, .int .i64 0, .int .i64 0, .int .i64 0, .int .i64 0, .int .i64 0, .int .i64 0, .int .i64 0, .int .i64 0, .int .i64 0, .int .i64 0, .int .i64 0, .int .i64 0] 242))) := by show Below _ _ _; repeat (first | exact Below.refl _ _ | assumption | refine Below.drew ?_ | refine below_drewN ?_ _ | refine Below.setCell ?_ (by first | exact Nat.le_refl _ | exact Below.size (by assumption) | (simp; done) | (simp; omega) | omega) _ | refine Below.alloc ?_ (by first | exact Nat.le_refl _ | exact Below.size (by assumption) | (simp; done) | (simp; omega) | omega) _)
  go_enter Try.func247, Try.ntmps247
  go_wp2_with fail
  go_loopw [2] (fun x wr => ∃ i : Nat, x = .int .i64 i ∧ i ≤ 16 ∧ wr.ownsRow w.heap.size 242 1 (.slice (some ⟨w.heap.size + 1, 0, none⟩) 16 16) 16 (tabL i) ∧ wr.heap[w.heap.size]? = some (.cells #[.int .i64 0, .int .i64 0, .int .i64 0, .int .i64 0, .int .i64 0, .int .i64 0, .int .i64 0, .int .i64 0, .int .i64 0, .int .i64 0, .int .i64 0, .int .i64 0, .int .i64 0, .int .i64 0, .int .i64 0, .int .i64 0] 242 (0, 0)) ∧ Below w.heap.size w wr) (fun x _ => 16 - (intOf x).toNat)
  case atStart => exact ⟨0, rfl, by omega, HO.out, HZ.out, HB.out⟩
  case round =>
    obtain ⟨i, rfl, hi, ho, hz, hb⟩ := hrel
    clear HO HZ HB
    by_cases hil : i < 16
    · have HO := Lib.hid ho
      have HZ := Lib.hid hz
      have HB := Lib.hid hb
      have hi2 : i < 4294967296 := by omega
      clear ho hz hb
      go_wp2_with fail
      go_loopw [3, 4] (fun s x wr' => ∃ (j Y : Nat), x = .int .i64 j ∧ s = .int .i64 Y ∧ Y < 4294967296 ∧ j ≤ 4 ∧ Y = bitN j i ∧ wr' = wr) (fun _ x _ => 4 - (intOf x).toNat)
      case atStart => exact ⟨0, i, rfl, rfl, hi2, by omega, rfl, rfl⟩
      case round =>
        obtain ⟨j, Y, rfl, rfl, hY, hj, hYe, rfl⟩ := hrel
        have HY := Lib.hid hYe
        clear hYe
        by_cases hjl : j < 4
        · obtain ⟨q1, q2, q3⟩ := step_i64 Y hY
          have hlt := bitS_lt hY
          go_wp2_with fail
          go_roundw
          case rel => exact ⟨j + 1, bitS Y, by go_num, rfl, hlt, by omega, by rw [HY.out]; rfl, by first | rfl | trivial⟩
          case measure => simp [intOf]; omega
        · obtain rfl : j = 4 := by omega
          obtain ⟨hst, hgr⟩ := HO.out.stored i (.int .i64 Y)
          have hce : ∃ u, wr.cell? ⟨w.heap.size + 1, i, none⟩ = some u := by
            rw [HO.out.cellAt i (by omega)]
            exact ⟨_, List.getElem?_eq_getElem (by rw [tabL_len]; exact hil)⟩
          obtain ⟨u, hcu⟩ := hce
          have hfr := HO.out.frozenAt i
          have HST := Lib.hid hst
          clear hst hgr
          go_wp2_with fail
          go_roundw
          case rel =>
            refine ⟨i + 1, by go_num, by omega, ?_, ?_, ?_⟩
            · have h := HST.out
              rw [HY.out, show bitN 4 i = tabN i from rfl, tabL_set i hil] at h
              rw [HY.out]
              exact h
            · exact (Below.heap_setCell _ _ _ _ (by simp)).trans HZ.out
            · exact HB.out.setCell (by simp) _
          case measure => simp [intOf]; omega
    · obtain rfl : i = 16 := by omega
      have hc0 : wr.cell? ⟨w.heap.size + 1, 0, none⟩ = some (.int .i64 (tabN 0)) := (ho.cellAt 0 (by omega)).trans (tabL_at 16 0 (by omega) (by omega))
      have hc1 : wr.cell? ⟨w.heap.size + 1, 1, none⟩ = some (.int .i64 (tabN 1)) := (ho.cellAt 1 (by omega)).trans (tabL_at 16 1 (by omega) (by omega))
      have hc2 : wr.cell? ⟨w.heap.size + 1, 2, none⟩ = some (.int .i64 (tabN 2)) := (ho.cellAt 2 (by omega)).trans (tabL_at 16 2 (by omega) (by omega))
      have hc3 : wr.cell? ⟨w.heap.size + 1, 3, none⟩ = some (.int .i64 (tabN 3)) := (ho.cellAt 3 (by omega)).trans (tabL_at 16 3 (by omega) (by omega))
      have hc4 : wr.cell? ⟨w.heap.size + 1, 4, none⟩ = some (.int .i64 (tabN 4)) := (ho.cellAt 4 (by omega)).trans (tabL_at 16 4 (by omega) (by omega))
      have hc5 : wr.cell? ⟨w.heap.size + 1, 5, none⟩ = some (.int .i64 (tabN 5)) := (ho.cellAt 5 (by omega)).trans (tabL_at 16 5 (by omega) (by omega))
      have hc6 : wr.cell? ⟨w.heap.size + 1, 6, none⟩ = some (.int .i64 (tabN 6)) := (ho.cellAt 6 (by omega)).trans (tabL_at 16 6 (by omega) (by omega))
      have hc7 : wr.cell? ⟨w.heap.size + 1, 7, none⟩ = some (.int .i64 (tabN 7)) := (ho.cellAt 7 (by omega)).trans (tabL_at 16 7 (by omega) (by omega))
      have hc8 : wr.cell? ⟨w.heap.size + 1, 8, none⟩ = some (.int .i64 (tabN 8)) := (ho.cellAt 8 (by omega)).trans (tabL_at 16 8 (by omega) (by omega))
      have hc9 : wr.cell? ⟨w.heap.size + 1, 9, none⟩ = some (.int .i64 (tabN 9)) := (ho.cellAt 9 (by omega)).trans (tabL_at 16 9 (by omega) (by omega))
      have hc10 : wr.cell? ⟨w.heap.size + 1, 10, none⟩ = some (.int .i64 (tabN 10)) := (ho.cellAt 10 (by omega)).trans (tabL_at 16 10 (by omega) (by omega))
      have hc11 : wr.cell? ⟨w.heap.size + 1, 11, none⟩ = some (.int .i64 (tabN 11)) := (ho.cellAt 11 (by omega)).trans (tabL_at 16 11 (by omega) (by omega))
      have hc12 : wr.cell? ⟨w.heap.size + 1, 12, none⟩ = some (.int .i64 (tabN 12)) := (ho.cellAt 12 (by omega)).trans (tabL_at 16 12 (by omega) (by omega))
      have hc13 : wr.cell? ⟨w.heap.size + 1, 13, none⟩ = some (.int .i64 (tabN 13)) := (ho.cellAt 13 (by omega)).trans (tabL_at 16 13 (by omega) (by omega))
      have hc14 : wr.cell? ⟨w.heap.size + 1, 14, none⟩ = some (.int .i64 (tabN 14)) := (ho.cellAt 14 (by omega)).trans (tabL_at 16 14 (by omega) (by omega))
      have hc15 : wr.cell? ⟨w.heap.size + 1, 15, none⟩ = some (.int .i64 (tabN 15)) := (ho.cellAt 15 (by omega)).trans (tabL_at 16 15 (by omega) (by omega))
      have hz0 : wr.cell? ⟨w.heap.size, 0, none⟩ = some (.int .i64 0) := by rw [cell_of_row wr _ 0 _ _ _ hz]; rfl
      have hf0 : wr.frozen? ⟨w.heap.size, 0, none⟩ = false := frozen_of_row wr _ 0 _ _ hz
      have hz1 : wr.cell? ⟨w.heap.size, 1, none⟩ = some (.int .i64 0) := by rw [cell_of_row wr _ 1 _ _ _ hz]; rfl
      have hf1 : wr.frozen? ⟨w.heap.size, 1, none⟩ = false := frozen_of_row wr _ 1 _ _ hz
      have hz2 : wr.cell? ⟨w.heap.size, 2, none⟩ = some (.int .i64 0) := by rw [cell_of_row wr _ 2 _ _ _ hz]; rfl
      have hf2 : wr.frozen? ⟨w.heap.size, 2, none⟩ = false := frozen_of_row wr _ 2 _ _ hz
      have hz3 : wr.cell? ⟨w.heap.size, 3, none⟩ = some (.int .i64 0) := by rw [cell_of_row wr _ 3 _ _ _ hz]; rfl
      have hf3 : wr.frozen? ⟨w.heap.size, 3, none⟩ = false := frozen_of_row wr _ 3 _ _ hz
      have hz4 : wr.cell? ⟨w.heap.size, 4, none⟩ = some (.int .i64 0) := by rw [cell_of_row wr _ 4 _ _ _ hz]; rfl
      have hf4 : wr.frozen? ⟨w.heap.size, 4, none⟩ = false := frozen_of_row wr _ 4 _ _ hz
      have hz5 : wr.cell? ⟨w.heap.size, 5, none⟩ = some (.int .i64 0) := by rw [cell_of_row wr _ 5 _ _ _ hz]; rfl
      have hf5 : wr.frozen? ⟨w.heap.size, 5, none⟩ = false := frozen_of_row wr _ 5 _ _ hz
      have hz6 : wr.cell? ⟨w.heap.size, 6, none⟩ = some (.int .i64 0) := by rw [cell_of_row wr _ 6 _ _ _ hz]; rfl
      have hf6 : wr.frozen? ⟨w.heap.size, 6, none⟩ = false := frozen_of_row wr _ 6 _ _ hz
      have hz7 : wr.cell? ⟨w.heap.size, 7, none⟩ = some (.int .i64 0) := by rw [cell_of_row wr _ 7 _ _ _ hz]; rfl
      have hf7 : wr.frozen? ⟨w.heap.size, 7, none⟩ = false := frozen_of_row wr _ 7 _ _ hz
      have hz8 : wr.cell? ⟨w.heap.size, 8, none⟩ = some (.int .i64 0) := by rw [cell_of_row wr _ 8 _ _ _ hz]; rfl
      have hf8 : wr.frozen? ⟨w.heap.size, 8, none⟩ = false := frozen_of_row wr _ 8 _ _ hz
      have hz9 : wr.cell? ⟨w.heap.size, 9, none⟩ = some (.int .i64 0) := by rw [cell_of_row wr _ 9 _ _ _ hz]; rfl
      have hf9 : wr.frozen? ⟨w.heap.size, 9, none⟩ = false := frozen_of_row wr _ 9 _ _ hz
      have hz10 : wr.cell? ⟨w.heap.size, 10, none⟩ = some (.int .i64 0) := by rw [cell_of_row wr _ 10 _ _ _ hz]; rfl
      have hf10 : wr.frozen? ⟨w.heap.size, 10, none⟩ = false := frozen_of_row wr _ 10 _ _ hz
      have hz11 : wr.cell? ⟨w.heap.size, 11, none⟩ = some (.int .i64 0) := by rw [cell_of_row wr _ 11 _ _ _ hz]; rfl
      have hf11 : wr.frozen? ⟨w.heap.size, 11, none⟩ = false := frozen_of_row wr _ 11 _ _ hz
      have hz12 : wr.cell? ⟨w.heap.size, 12, none⟩ = some (.int .i64 0) := by rw [cell_of_row wr _ 12 _ _ _ hz]; rfl
      have hf12 : wr.frozen? ⟨w.heap.size, 12, none⟩ = false := frozen_of_row wr _ 12 _ _ hz
      have hz13 : wr.cell? ⟨w.heap.size, 13, none⟩ = some (.int .i64 0) := by rw [cell_of_row wr _ 13 _ _ _ hz]; rfl
      have hf13 : wr.frozen? ⟨w.heap.size, 13, none⟩ = false := frozen_of_row wr _ 13 _ _ hz
      have hz14 : wr.cell? ⟨w.heap.size, 14, none⟩ = some (.int .i64 0) := by rw [cell_of_row wr _ 14 _ _ _ hz]; rfl
      have hf14 : wr.frozen? ⟨w.heap.size, 14, none⟩ = false := frozen_of_row wr _ 14 _ _ hz
      have hz15 : wr.cell? ⟨w.heap.size, 15, none⟩ = some (.int .i64 0) := by rw [cell_of_row wr _ 15 _ _ _ hz]; rfl
      have hf15 : wr.frozen? ⟨w.heap.size, 15, none⟩ = false := frozen_of_row wr _ 15 _ _ hz
      have HB := Lib.hid hb
      clear ho hz hb
      go_wp2_with fail
      refine bodyPost_ret (v := .agg #[.int .i64 (tabN 0), .int .i64 (tabN 1), .int .i64 (tabN 2), .int .i64 (tabN 3), .int .i64 (tabN 4), .int .i64 (tabN 5), .int .i64 (tabN 6), .int .i64 (tabN 7), .int .i64 (tabN 8), .int .i64 (tabN 9), .int .i64 (tabN 10), .int .i64 (tabN 11), .int .i64 (tabN 12), .int .i64 (tabN 13), .int .i64 (tabN 14), .int .i64 (tabN 15)]) ?_ rfl ⟨rfl, ?_⟩
      · simp [results, Try.results247, go_sem, *]
      · have hB := HB.out
        exact ((((((((((((((((hB.setCell (p := ⟨w.heap.size, 0, none⟩) (Nat.le_refl _) _).setCell (p := ⟨w.heap.size, 1, none⟩) (Nat.le_refl _) _).setCell (p := ⟨w.heap.size, 2, none⟩) (Nat.le_refl _) _).setCell (p := ⟨w.heap.size, 3, none⟩) (Nat.le_refl _) _).setCell (p := ⟨w.heap.size, 4, none⟩) (Nat.le_refl _) _).setCell (p := ⟨w.heap.size, 5, none⟩) (Nat.le_refl _) _).setCell (p := ⟨w.heap.size, 6, none⟩) (Nat.le_refl _) _).setCell (p := ⟨w.heap.size, 7, none⟩) (Nat.le_refl _) _).setCell (p := ⟨w.heap.size, 8, none⟩) (Nat.le_refl _) _).setCell (p := ⟨w.heap.size, 9, none⟩) (Nat.le_refl _) _).setCell (p := ⟨w.heap.size, 10, none⟩) (Nat.le_refl _) _).setCell (p := ⟨w.heap.size, 11, none⟩) (Nat.le_refl _) _).setCell (p := ⟨w.heap.size, 12, none⟩) (Nat.le_refl _) _).setCell (p := ⟨w.heap.size, 13, none⟩) (Nat.le_refl _) _).setCell (p := ⟨w.heap.size, 14, none⟩) (Nat.le_refl _) _).setCell (p := ⟨w.heap.size, 15, none⟩) (Nat.le_refl _) _)
end Go.Proofs.Ytlfnpnkpjdmonaa
namespace Go.Proofs.Ytlfnpnkpjdmonaa
open Go.RowKit

@[reducible] def tabA : Array Value := #[.int .i64 (tabN 0), .int .i64 (tabN 1), .int .i64 (tabN 2), .int .i64 (tabN 3), .int .i64 (tabN 4), .int .i64 (tabN 5), .int .i64 (tabN 6), .int .i64 (tabN 7), .int .i64 (tabN 8), .int .i64 (tabN 9), .int .i64 (tabN 10), .int .i64 (tabN 11), .int .i64 (tabN 12), .int .i64 (tabN 13), .int .i64 (tabN 14), .int .i64 (tabN 15)]
theorem tabA_at : ∀ k, k < 16 → tabA[k]? = some (.int .i64 (tabN k))
  | 0, _ => rfl | 1, _ => rfl | 2, _ => rfl | 3, _ => rfl | 4, _ => rfl | 5, _ => rfl | 6, _ => rfl | 7, _ => rfl
  | 8, _ => rfl | 9, _ => rfl | 10, _ => rfl | 11, _ => rfl | 12, _ => rfl | 13, _ => rfl | 14, _ => rfl | 15, _ => rfl
  | n + 16, h => by omega
theorem and15_i64 (X : Nat) (h : X < 4294967296) : bits .and .i64 (X : Int) 15 = ((X % 16 : Nat) : Int) := by
  rw [show (15 : Int) = ((15 : Nat) : Int) from rfl, bits_and_i64 X 15 (by omega) (by omega), and_15]
set_option maxRecDepth 100000 in
theorem l01Check_any (A : Option Addr) (c : Nat) (xs : List UInt8) (w : World) (hx : Rd w w.heap.size A (xs.map bv)) (hl : xs.length ≤ 4611686018427387904) :
    Calls Try.prog 219 #[.slice A xs.length c] w fun e w' => e = .returned (.int .i64 (crcM xs)) ∧ Below w.heap.size w w' := by
  have HX := Lib.hid hx
  clear hx
  go_enter Try.func219, Try.ntmps219
  go_wp2_with fail
  refine (l01Table_any _).mono ?_
  rintro e w1 ⟨rfl, hb1⟩
  have hb2 : Below w1.heap.size w1 (w1.alloc (.cells tabA 242)) := by repeat (first | exact Below.refl _ _ | assumption | refine Below.drew ?_ | refine below_drewN ?_ _ | refine Below.setCell ?_ (by first | exact Nat.le_refl _ | exact Below.size (by assumption) | (simp; done) | (simp; omega) | omega) _ | refine Below.alloc ?_ (by first | exact Nat.le_refl _ | exact Below.size (by assumption) | (simp; done) | (simp; omega) | omega) _)
  have HT : Hid (∀ k, k < 16 → (w1.alloc (.cells tabA 242)).cell? ⟨w1.heap.size, k, none⟩ = some (.int .i64 (tabN k))) := fun k hk => by
    rw [cell_of_row _ _ k _ _ _ (heap_alloc_new _ _)]
    exact tabA_at k hk
  have HB := Lib.hid (below_after hb1 hb2)
  clear hb1 hb2
  go_wp2_with fail
  obtain ⟨W, hW⟩ : ∃ W, W = w1.alloc (.cells tabA 242) := ⟨_, rfl⟩
  rw [← hW] at HT HB
  have HWE := Lib.hid hW
  clear hW
  go_loopw [4, 5] (fun r x wr => ∃ (k R : Nat), x = .int .i64 k ∧ r = .int .i64 R ∧ R < 4294967296 ∧ k ≤ xs.length ∧ R = crcF 4294967295 (xs.take k) ∧ wr = W) (fun _ x _ => xs.length - (intOf x).toNat)
  case atStart => exact ⟨0, 4294967295, rfl, rfl, by omega, by omega, rfl, HWE.out.symm⟩
  case round =>
    obtain ⟨k, R, rfl, rfl, hR, hk, hRe, rfl⟩ := hrel
    have HR := Lib.hid hRe
    clear hRe
    by_cases hkl : k < xs.length
    · obtain ⟨ad, rfl, hla, hc⟩ := (HX.out.next HB.out).at_ (map_at hkl)
      have hbx : xs[k].toNat < 256 := xs[k].toNat_lt
      obtain ⟨b, hbe⟩ : ∃ b, b = xs[k].toNat := ⟨_, rfl⟩
      obtain ⟨X, hX⟩ : ∃ X, X = R ^^^ b := ⟨_, rfl⟩
      have hcb : wr.cell? (ad.add k) = some (.int .u8 (b : Int)) := by rw [hbe]; exact hc
      rw [← hbe] at hbx
      have hXl : X < 4294967296 := by rw [hX]; exact Nat.xor_lt_two_pow (n := 32) hR (by omega)
      have f1 : bits .xor .i64 (R : Int) (b : Int) = (X : Int) := by rw [hX]; exact bits_xor_i64 _ _ (by omega) (by omega)
      obtain ⟨K, hK⟩ : ∃ K, K = X % 16 := ⟨_, rfl⟩
      have hKl : K < 16 := by omega
      have f2 : bits .and .i64 (X : Int) 15 = (K : Int) := by rw [hK]; exact and15_i64 X hXl
      have c1 := HT.out K hKl
      have t1 := tabN_lt K hKl
      obtain ⟨T, hT⟩ : ∃ T, T = tabN K := ⟨_, rfl⟩
      rw [← hT] at c1 t1
      obtain ⟨S, hS⟩ : ∃ S, S = R / 16 ^^^ T := ⟨_, rfl⟩
      have hSl : S < 4294967296 := by rw [hS]; exact Nat.xor_lt_two_pow (n := 32) (by omega) t1
      have f3 : bits .xor .i64 ((R : Int) / 16) (T : Int) = (S : Int) := by
        rw [hS, show (R : Int) / 16 = ((R / 16 : Nat) : Int) from by omega]
        exact bits_xor_i64 _ _ (by omega) (by omega)
      obtain ⟨X2, hX2⟩ : ∃ X2, X2 = S ^^^ b / 16 := ⟨_, rfl⟩
      have hX2l : X2 < 4294967296 := by rw [hX2]; exact Nat.xor_lt_two_pow (n := 32) hSl (by omega)
      have f4 : bits .xor .i64 (S : Int) ((b : Int) / 16) = (X2 : Int) := by
        rw [hX2, show (b : Int) / 16 = ((b / 16 : Nat) : Int) from by omega]
        exact bits_xor_i64 _ _ (by omega) (by omega)
      obtain ⟨K2, hK2⟩ : ∃ K, K = X2 % 16 := ⟨_, rfl⟩
      have hK2l : K2 < 16 := by omega
      have f5 : bits .and .i64 (X2 : Int) 15 = (K2 : Int) := by rw [hK2]; exact and15_i64 X2 hX2l
      have c2 := HT.out K2 hK2l
      have t2 := tabN_lt K2 hK2l
      obtain ⟨T2, hT2⟩ : ∃ T, T = tabN K2 := ⟨_, rfl⟩
      rw [← hT2] at c2 t2
      obtain ⟨S2, hS2⟩ : ∃ S2, S2 = S / 16 ^^^ T2 := ⟨_, rfl⟩
      have hS2l : S2 < 4294967296 := by rw [hS2]; exact Nat.xor_lt_two_pow (n := 32) (by omega) t2
      have f6 : bits .xor .i64 ((S : Int) / 16) (T2 : Int) = (S2 : Int) := by
        rw [hS2, show (S : Int) / 16 = ((S / 16 : Nat) : Int) from by omega]
        exact bits_xor_i64 _ _ (by omega) (by omega)
      have HE : Hid (S2 = crcF 4294967295 (xs.take (k + 1))) := by
        show _ = _
        rw [List.take_succ_eq_append_getElem hkl, crcF_snoc, ← hbe, ← HR.out, byte_table R b hbx, hS2, hT2, hK2, hX2, hS, hT, hK, hX]
        rfl
      clear hbe hX hK hT hS hX2 hK2 hT2 hS2 hc
      go_wp2_with fail
      go_roundw
      case rel => exact ⟨k + 1, S2, by go_num, rfl, hS2l, by omega, HE.out, by first | rfl | trivial⟩
      case measure => simp [intOf]; omega
    · obtain rfl : k = xs.length := by omega
      have hf : bits .xor .i64 (R : Int) 4294967295 = ((R ^^^ 4294967295 : Nat) : Int) := by
        rw [show (4294967295 : Int) = ((4294967295 : Nat) : Int) from rfl]
        exact bits_xor_i64 _ _ (by omega) (by omega)
      have HE : Hid (R ^^^ 4294967295 = crcM xs) := by
        show _ = _
        rw [HR.out, List.take_length]
        rfl
      go_wp2_with fail
      go_ret
      exact ⟨by rw [← HE.out]; rfl, HB.out⟩
end Go.Proofs.Ytlfnpnkpjdmonaa
