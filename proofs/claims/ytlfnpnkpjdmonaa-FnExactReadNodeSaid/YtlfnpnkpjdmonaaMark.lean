import Derived.Test.YtlfnpnkpjdmonaaNames
import Derived.Lib.ConvBytes
import Derived.Laws.BytesString
set_option linter.unusedVariables false
set_option linter.unusedSimpArgs false
namespace Go.Proofs.Ytlfnpnkpjdmonaa
open Go.RowKit

def digs (k : Nat) : List UInt8 := if h : k = 0 then [] else digs (k / 10) ++ [UInt8.ofNat (48 + k % 10)]
theorem digs_pos (k : Nat) (h : 0 < k) : digs k = digs (k / 10) ++ [UInt8.ofNat (48 + k % 10)] := by
  rw [digs, dif_neg (by omega)]
theorem digs_zero : digs 0 = [] := by rw [digs]; simp
/-- a mark -/
def mkT (k : Int) : ByteArray := if k ≤ 0 then ⟨#[109, 48]⟩ else ⟨(109 :: digs k.toNat).toArray⟩

theorem str_snoc (n : Nat) (s : List UInt8) : Value.string (strOfNums [48 + (n : Int) % 10] ++ { data := s.toArray }) = Value.string { data := (UInt8.ofNat (48 + n % 10) :: s).toArray } := by
  have e : strOfNums [48 + (n : Int) % 10] = ⟨[UInt8.ofNat (48 + n % 10)].toArray⟩ := by
    unfold strOfNums
    simp only [List.map_cons, List.map_nil]
    rw [show (48 + (n : Int) % 10).toNat = 48 + n % 10 from by omega]
  rw [e]
  congr 1
set_option maxRecDepth 100000 in
theorem markText_any (k : Int) (w : World) (hk : k ≤ 4611686018427387904) :
    Calls Try.prog 110 #[.int .i64 k] w fun e w' => e = .returned (.string (mkT k)) ∧ Below w.heap.size w w' := by
  by_cases h0 : k ≤ 0
  · have hm : mkT k = ⟨#[109, 48]⟩ := by rw [mkT, if_pos h0]
    rw [hm]
    clear hm
    go_enter Try.func110, Try.ntmps110
    go_wp2
    go_ret
    exact ⟨rfl, Below.refl _ _⟩
  · have hm : mkT k = ⟨(109 :: digs k.toNat).toArray⟩ := by rw [mkT, if_neg h0]
    rw [hm]
    clear hm
    go_enter Try.func110, Try.ntmps110
    go_wp2
    go_loopw [0, 3] (fun a o wr => ∃ (n : Nat) (s : List UInt8), (n : Int) ≤ k ∧ a = .int .i64 n ∧ o = .string ⟨s.toArray⟩ ∧ digs k.toNat = digs n ++ s ∧ (s.length + n : Int) ≤ k ∧ Below w.heap.size w wr) (fun a _ _ => (intOf a).toNat)
    case atStart => exact ⟨k.toNat, [], by omega, by go_num, rfl, by simp, by simp; omega, Below.refl _ _⟩
    case round =>
      obtain ⟨n, s, hn, rfl, rfl, hd, hsl, hb⟩ := hrel
      have HD := Lib.hid hd
      clear hd
      by_cases hp : 0 < n
      · have hcv := run_convert_bytes_arg (P := Try.prog) (wr.alloc (.cells #[.int .u8 (48 + (n : Int) % 10)] 5)) 39 5 Try.underlying39 Try.underlying5 wr.heap.size 0 1 1 [48 + (n : Int) % 10] rfl
          (fun i hi => by obtain rfl : i = 0 := by omega
                          simp) 9 Try.underlying9
        have hs1 : (strOfNums [48 + (n : Int) % 10]).size = 1 := rfl
        go_wp2
        go_roundw
        case rel =>
          refine ⟨n / 10, UInt8.ofNat (48 + n % 10) :: s, by omega, by go_num, str_snoc n s, ?_, by simp; omega, hb.alloc hb.size _⟩
          rw [HD.out, digs_pos n hp, List.append_assoc]
          rfl
        case measure => simp [intOf]; omega
      · have hn0 : n = 0 := by omega
        subst hn0
        go_wp2
        go_ret
        refine ⟨?_, hb⟩
        have := HD.out
        rw [digs_zero, List.nil_append] at this
        rw [this]
        rfl
end Go.Proofs.Ytlfnpnkpjdmonaa
