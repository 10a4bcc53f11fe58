import Derived.Test.YtlfnpnkpjdmonaaTexts
import Derived.WalkSpells
import Derived.Lib.ConvBytes
set_option linter.unusedVariables false
set_option linter.unusedSimpArgs false
namespace Go.Proofs.Ytlfnpnkpjdmonaa
open Go.RowKit

/-! ### taking bytes from the front -/
@[reducible] def bs (l : List UInt8) : ByteArray := ⟨l.toArray⟩
/-- block g of w is a taker: what is left, and whether it is bad -/
def Tk (w : World) (g : Nat) (l : List UInt8) (bad : Bool) : Prop := w.heap[g]? = some (.cells #[.string (bs l), .bool bad] 184 (0, 0))
def tkText (n : Nat) (l : List UInt8) (bad : Bool) : List UInt8 × List UInt8 × Bool := if bad = true ∨ l.length < n then ([], l, true) else (l.take n, l.drop n, false)

theorem Tk.cells {w : World} {g : Nat} {l : List UInt8} {bad : Bool} (h : Tk w g l bad) : w.cell? ⟨g, 0, none⟩ = some (.string (bs l)) ∧ w.cell? ⟨g, 1, none⟩ = some (.bool bad) ∧ ∀ i, w.frozen? ⟨g, i, none⟩ = false := by
  unfold Tk at h
  exact ⟨by rw [cell_of_row w g 0 _ _ _ h]; rfl, by rw [cell_of_row w g 1 _ _ _ h]; rfl, fun i => frozen_of_row w g i _ _ h⟩
theorem Tk.lt {w : World} {g : Nat} {l : List UInt8} {bad : Bool} (h : Tk w g l bad) : g < w.heap.size := (Array.getElem?_eq_some_iff.1 h).1
theorem Tk.setBad {w : World} {g : Nat} {l : List UInt8} {bad : Bool} (h : Tk w g l bad) (b : Bool) : Tk (w.setCell ⟨g, 1, none⟩ (.bool b)) g l b := by
  unfold Tk at h ⊢
  rw [heap_setCell_same w g 1 _ _ _ h]
  rfl
theorem Tk.setRest {w : World} {g : Nat} {l : List UInt8} {bad : Bool} (h : Tk w g l bad) (m : List UInt8) : Tk (w.setCell ⟨g, 0, none⟩ (.string (bs m))) g m bad := by
  unfold Tk at h ⊢
  rw [heap_setCell_same w g 0 _ _ _ h]
  rfl
theorem grown_set (w : World) (g i : Nat) (v : Value) : w.grownBy (w.setCell ⟨g, i, none⟩ v) (some g) :=
  ⟨rfl, rfl, rfl, by simp, fun k hk hn => heap_setCell_other w _ k v (fun e => hn (by rw [e]))⟩
theorem Tk.kept {w w1 : World} {g : Nat} {l : List UInt8} {bad : Bool} (h : Tk w g l bad) (hb : Below w.heap.size w w1) : Tk w1 g l bad := (hb.block g h.lt).trans h

theorem bs_data (l : List UInt8) : (bs l).data.toList = l := by simp
theorem bs_take (l : List UInt8) (n : Nat) : (bs l).extract 0 n = bs (l.take n) := Go.WideShapes.bytes_inj (by simp [ByteArray.data_extract])
theorem bs_drop (l : List UInt8) (n : Nat) : (bs l).extract n l.length = bs (l.drop n) := Go.WideShapes.bytes_inj (by simp [ByteArray.data_extract]; rw [List.take_of_length_le (by simp)])

theorem text_any (g : Nat) (l : List UInt8) (bad : Bool) (n : Nat) (w : World) (hg : Tk w g l bad) (hl : l.length ≤ 17592186044416) (hn : n ≤ 17592186044416) :
    Calls Try.prog 237 #[.pointer (some ⟨g, 0, none⟩), .int .i64 n] w fun e w' => e = .returned (.string (bs (tkText n l bad).1)) ∧ Tk w' g (tkText n l bad).2.1 (tkText n l bad).2.2 ∧ w.grownBy w' (some g) := by
  obtain ⟨c0, c1, hf⟩ := hg.cells
  have hf0 := hf 0
  have hf1 := hf 1
  clear hf
  have HG := Lib.hid hg
  clear hg
  have hsz : (bs l).size = l.length := by simp [ByteArray.size]
  cases bad with
  | true =>
    have ht : tkText n l true = ([], l, true) := by simp [tkText]
    rw [ht]
    clear ht
    go_enter Try.func237, Try.ntmps237
    go_wp2
    go_ret
    exact ⟨rfl, HG.out.setBad true, grown_set _ _ _ _⟩
  | false =>
    by_cases hlt : l.length < n
    · have ht : tkText n l false = ([], l, true) := by simp [tkText, hlt]
      rw [ht]
      clear ht
      go_enter Try.func237, Try.ntmps237
      go_wp2
      go_ret
      exact ⟨rfl, HG.out.setBad true, grown_set _ _ _ _⟩
    · have ht : tkText n l false = (l.take n, l.drop n, false) := by simp [tkText, hlt]
      rw [ht]
      clear ht
      go_enter Try.func237, Try.ntmps237
      go_wp2
      go_ret
      refine ⟨by rw [← bs_take]; rfl, ?_, grown_set _ _ _ _⟩
      rw [bs_drop]
      exact HG.out.setRest _
/-! ### numbers -/
/-- the number that bytes are, the higher ones first -/
def be (l : List UInt8) : Nat := l.foldl (fun n c => n * 256 + c.toNat) 0
theorem be_snoc (l : List UInt8) (c : UInt8) : be (l ++ [c]) = be l * 256 + c.toNat := by simp [be]
theorem be_lt_aux (l : List UInt8) (n : Nat) : l.foldl (fun n c => n * 256 + c.toNat) n < (n + 1) * 256 ^ l.length := by
  induction l generalizing n with
  | nil => simp
  | cons c l ih =>
    rw [List.foldl_cons, List.length_cons, Nat.pow_succ]
    have h1 := ih (n * 256 + c.toNat)
    have h2 := c.toNat_lt
    have h3 : n * 256 + c.toNat + 1 ≤ (n + 1) * 256 := by omega
    have h4 := Nat.mul_le_mul_right (256 ^ l.length) h3
    rw [Nat.mul_comm (256 ^ l.length) 256, ← Nat.mul_assoc]
    exact Nat.lt_of_lt_of_le h1 h4
theorem be_lt (l : List UInt8) : be l < 256 ^ l.length := by
  have := be_lt_aux l 0
  simpa [be] using this
theorem be_take_lt (l : List UInt8) (k : Nat) (h : l.length ≤ 4) (hk : k < l.length) : be (l.take k) < 16777216 := by
  have h1 := be_lt (l.take k)
  have h2 : (l.take k).length ≤ 3 := by rw [List.length_take]; omega
  exact Nat.lt_of_lt_of_le h1 (Nat.pow_le_pow_right (by omega) h2)
theorem ofInt_i64 (a : Nat) (ha : a < 9223372036854775808) : (BitVec.ofInt 64 (a : Int)).toNat = a := by
  rw [BitVec.ofInt_natCast, BitVec.toNat_ofNat]; exact Nat.mod_eq_of_lt (by omega)
theorem i64_or_nat (a b : Nat) (ha : a < 9223372036854775808) (hb : b < 9223372036854775808) : bits .or .i64 (a : Int) (b : Int) = ((a ||| b : Nat) : Int) := by
  have hx : a ||| b < 2 ^ 63 := Nat.or_lt_two_pow (by omega) (by omega)
  show IntKind.i64.wrap ((BitVec.ofInt 64 (a : Int) ||| BitVec.ofInt 64 (b : Int)).toNat : Int) = _
  rw [BitVec.toNat_or, ofInt_i64 a ha, ofInt_i64 b hb, IntKind.wrap_i64]
  omega
set_option maxRecDepth 100000 in
theorem conv_bytes (w : World) (l : List UInt8) : ∃ (cap : Nat) (w' : World), (convert 9 39 (.string (bs l))).run Try.prog w = .ok (.slice (some ⟨w.heap.size, 0, none⟩) l.length cap) w' ∧ Below w.heap.size w w' ∧ w.heap.size < w'.heap.size ∧ ∀ j, (h : j < l.length) → w'.cell? ⟨w.heap.size, j, none⟩ = some (.int .u8 (l[j].toNat : Int)) := by
  have hrun : (convert 9 39 (.string (bs l))).run Try.prog w = .ok (.slice (some ⟨w.heap.size, 0, none⟩) l.length (grownCap w l.length 0 5)) (Lib.bytesWorld w 5 (bs l)) := by
    have h := Lib.run_convert_string_bytes (P := Try.prog) w 9 39 5 (bs l) Try.underlying9 Try.underlying39 Try.underlying5
    have e : (bs l).size = l.length := by simp [ByteArray.size]
    rw [e] at h
    exact h
  have hsz := Lib.bytesWorld_size w 5 (bs l)
  refine ⟨_, _, hrun, ⟨?_, ?_, ?_, by omega, fun k hk => Lib.bytesWorld_at_old w _ _ k hk⟩, by omega, fun j hj => ?_⟩
  · simp [Lib.bytesWorld, World.freeze, World.alloc, World.drew, -World.alloc_eq, -World.drew_eq]
  · simp [Lib.bytesWorld, World.freeze, World.alloc, World.drew, -World.alloc_eq, -World.drew_eq]
  · simp [Lib.bytesWorld, World.freeze, World.alloc, World.drew, -World.alloc_eq, -World.drew_eq]
  · rw [Lib.bytesWorld_cell w _ (bs l) j (by simpa [ByteArray.size] using hj)]
    simp [List.getD, hj]
theorem or_byte (n : Nat) (c : UInt8) (h : n < 4294967296) : bits .or .i64 ((n : Int) * 256) (c.toNat : Int) = ((n * 256 + c.toNat : Nat) : Int) := by
  have hc := c.toNat_lt
  have e := i64_or_nat (n * 256) c.toNat (by omega) (by omega)
  have e2 : n * 256 ||| c.toNat = n * 256 + c.toNat := by
    have := Nat.shiftLeft_add_eq_or_of_lt (i := 8) (b := c.toNat) hc n
    simp only [Nat.shiftLeft_eq, show (2 : Nat) ^ 8 = 256 from rfl] at this
    exact this.symm
  rw [e2] at e
  simpa using e
set_option maxRecDepth 100000 in
theorem number_any (g : Nat) (l : List UInt8) (bad : Bool) (n : Nat) (w : World) (hg : Tk w g l bad) (hl : l.length ≤ 17592186044416) (hn : n ≤ 4) :
    Calls Try.prog 217 #[.pointer (some ⟨g, 0, none⟩), .int .i64 n] w fun e w' => e = .returned (.int .i64 (be (tkText n l bad).1)) ∧ Tk w' g (tkText n l bad).2.1 (tkText n l bad).2.2 ∧ w.grownBy w' (some g) := by
  have HG := Lib.hid hg
  clear hg
  have hlen : (tkText n l bad).1.length ≤ n := by
    unfold tkText
    split
    · simp
    · simp; omega
  generalize htk : tkText n l bad = t at *
  have HT := Lib.hid htk
  clear htk
  go_enter Try.func217, Try.ntmps217
  go_wp2_with fail
  refine (text_any g l bad n _ HG.out hl (by omega)).mono ?_
  rw [HT.out]
  rintro e w1 ⟨rfl, ht1, hg1⟩
  obtain ⟨cap, w2, hrun, hb2, hlt2, hc2⟩ := conv_bytes w1 t.1
  have HC := Lib.hid hc2
  have HT1 := Lib.hid (ht1.kept hb2)
  have HG1 := Lib.hid (grown_after hg1 (grown_below hb2 (some g)))
  clear ht1 hg1 hc2 hb2
  go_wp2
  go_loop [5, 13] (fun a i => ∃ k : Nat, k ≤ t.1.length ∧ i = .int .i64 k ∧ a = .int .i64 (be (t.1.take k))) (fun _ i => t.1.length - (intOf i).toNat)
  case atStart => exact ⟨0, Nat.zero_le _, rfl, rfl⟩
  case round =>
    obtain ⟨k, hk, rfl, rfl⟩ := hrel
    by_cases hlt : k < t.1.length
    · have hcl := HC.out k hlt
      have hbl := be_take_lt t.1 k (by omega) hlt
      have hbl' : (be (t.1.take k) : Int) < 16777216 := by omega
      have hc1 : (t.1[k].toNat : Int) < 256 := by have := t.1[k].toNat_lt; omega
      have HOR := Lib.hid (or_byte (be (t.1.take k)) t.1[k] (by omega))
      clear hbl
      go_wp2
      go_round
      case rel =>
        refine ⟨k + 1, by omega, by go_num, ?_⟩
        rw [HOR.out, List.take_succ_eq_append_getElem hlt, be_snoc]
      case measure => simp [intOf]; omega
    · go_wp2
      go_ret
      exact ⟨by rw [List.take_of_length_le (by omega)]; rfl, HT1.out, HG1.out⟩
end Go.Proofs.Ytlfnpnkpjdmonaa
