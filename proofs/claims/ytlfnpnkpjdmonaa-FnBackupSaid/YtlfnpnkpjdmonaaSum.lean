import Derived.Test.YtlfnpnkpjdmonaaCrc
import Derived.Test.YtlfnpnkpjdmonaaDiffApi
set_option linter.unusedVariables false
set_option linter.unusedSimpArgs false
namespace Go.Proofs.Ytlfnpnkpjdmonaa
open Go.RowKit

/-! ### the sum of pairs -/
theorem bs_of (a : ByteArray) : bs a.toList = a := Go.WideShapes.bytes_inj (by rw [List.toList_toArray, ByteArray.toList_eq])
theorem len_of (a : ByteArray) : a.toList.length = a.size := by rw [ByteArray.toList_eq, Array.length_toList]; rfl
def pairF (p : Pr) : List UInt8 := fieldsB [p.1.toList, p.2.toList]
def sumB (l : List Pr) : List UInt8 := l.flatMap pairF
def sumP (l : List Pr) : Nat := crcM (sumB l)
theorem sumP_lt (l : List Pr) : sumP l < 4294967296 := crcM_lt _
theorem pairF_len {p : Pr} (h : pairB p = true) : (pairF p).length ≤ 125 := by
  simp only [pairB, Bool.and_eq_true, decide_eq_true_eq] at h
  simp only [pairF, fieldsB, List.length_cons, List.flatMap_cons, List.flatMap_nil, List.length_append, List.length_nil, nb_len, len_of]
  omega
theorem sumB_len {l : List Pr} (h : ∀ p ∈ l, pairB p = true) : (sumB l).length ≤ l.length * 125 := by
  induction l with
  | nil => simp [sumB]
  | cons p l ih =>
    have h1 := pairF_len (h p (List.mem_cons_self ..))
    have h2 := ih fun q hq => h q (List.mem_cons_of_mem _ hq)
    unfold sumB at h2 ⊢
    rw [List.flatMap_cons, List.length_append, List.length_cons]
    omega
theorem rd_alloc (w : World) (cs : List Value) (arr : Array Value) (t : TypeId) (g : Nat) (hg : g = w.heap.size) (h : arr = cs.toArray) : Rd (w.alloc (.cells arr t)) (w.alloc (.cells arr t)).heap.size (some ⟨g, 0, none⟩) cs := fun _ => by
  subst h hg
  refine ⟨_, rfl, by simp, fun j u hj => ?_⟩
  rw [addr_lit, Nat.zero_add, cell_of_row _ _ j _ _ _ (heap_alloc_new _ _)]
  simpa using hj
theorem fields2_any (x y : ByteArray) (b : Nat) (w : World) (hx : Rd w w.heap.size (some ⟨b, 0, none⟩) [.string x, .string y]) (h1 : x.size ≤ 4194304) (h2 : y.size ≤ 4194304) :
    Calls Try.prog 126 #[.slice (some ⟨b, 0, none⟩) 2 2] w fun e w' => e = .returned (.string (bs (fieldsB [x.toList, y.toList]))) ∧ Below w.heap.size w w' :=
  fields_bytes (some ⟨b, 0, none⟩) 2 [x.toList, y.toList] w (by simpa [sv, bs_of] using hx) (by simp) (by
    intro z hz
    simp only [List.mem_cons, List.not_mem_nil, or_false] at hz
    rcases hz with rfl | rfl <;> rw [len_of] <;> assumption)
theorem fields3_any (x y z : ByteArray) (b : Nat) (w : World) (hx : Rd w w.heap.size (some ⟨b, 0, none⟩) [.string x, .string y, .string z]) (h1 : x.size ≤ 4194304) (h2 : y.size ≤ 4194304) (h3 : z.size ≤ 4194304) :
    Calls Try.prog 126 #[.slice (some ⟨b, 0, none⟩) 3 3] w fun e w' => e = .returned (.string (bs (fieldsB [x.toList, y.toList, z.toList]))) ∧ Below w.heap.size w w' :=
  fields_bytes (some ⟨b, 0, none⟩) 3 [x.toList, y.toList, z.toList] w (by simpa [sv, bs_of] using hx) (by simp) (by
    intro v hv
    simp only [List.mem_cons, List.not_mem_nil, or_false] at hv
    rcases hv with rfl | rfl | rfl <;> rw [len_of] <;> assumption)
set_option maxRecDepth 100000 in
set_option maxHeartbeats 1000000 in
theorem pairsSum_any (A : Option Addr) (c : Nat) (l : List Pr) (w : World) (hx : Rd w w.heap.size A (flat encP l)) (hl : l.length ≤ 4096) (hs : ∀ p ∈ l, pairB p = true) :
    Calls Try.prog 170 #[.slice A l.length c] w fun e w' => e = .returned (.int .i64 (sumP l)) ∧ Below w.heap.size w w' := by
  have HX := Lib.hid hx
  have HS := Lib.hid hs
  clear hx hs
  have hb0 : Below w.heap.size w (w.alloc (.cells #[.pointer none, .slice none 0 0] 200)) := by repeat (first | exact Below.refl _ _ | assumption | refine Below.drew ?_ | refine below_drewN ?_ _ | refine Below.setCell ?_ (by first | exact Nat.le_refl _ | exact Below.size (by assumption) | (simp; done) | (simp; omega) | omega) _ | refine Below.alloc ?_ (by first | exact Nat.le_refl _ | exact Below.size (by assumption) | (simp; done) | (simp; omega) | omega) _)
  have H0 := Lib.hid (fresh_Bd w)
  go_enter Try.func170, Try.ntmps170
  go_wp2_with fail
  go_loopw [9] (fun i wr => ∃ k : Nat, k ≤ l.length ∧ i = .int .i64 k ∧ Bd w.heap.size w.heap.size (sumB (l.take k)) wr ∧ Below w.heap.size w wr) (fun i _ => l.length - (intOf i).toNat)
  case atStart => exact ⟨0, Nat.zero_le _, rfl, H0.out, hb0⟩
  case round =>
    obtain ⟨k, hk, rfl, hd, hb⟩ := hrel
    have HD := Lib.hid hd
    clear hd H0 hb0
    have hzr : w.heap.size < wr.heap.size := HD.out.lt
    by_cases hlt : k < l.length
    · obtain ⟨ad, rfl, hla, hca, hcb⟩ := (HX.out.below hb).pr hlt
      have hpb := HS.out _ (List.getElem_mem hlt)
      obtain ⟨p, hp⟩ : ∃ p, p = l[k] := ⟨_, rfl⟩
      rw [← hp] at hca hcb hpb
      have HP := Lib.hid hp
      have hps := hpb
      simp only [pairB, Bool.and_eq_true, decide_eq_true_eq] at hps
      have hk1 : p.1.size ≤ 4194304 := by omega
      have hk2 : p.2.size ≤ 4194304 := by omega
      have HPB := Lib.hid (pairF_len hpb)
      have HB := Lib.hid hb
      clear hp hpb hps hb
      go_wp2_with fail
      refine (fields2_any p.1 p.2 _ _ (by exact rd_alloc _ _ _ _ _ (by simp) rfl) hk1 hk2).mono ?_
      rw [show fieldsB [p.1.toList, p.2.toList] = pairF p from rfl]
      rintro e w2 ⟨rfl, hb2⟩
      have hba : Below wr.heap.size wr w2 := Below.trans (show Below wr.heap.size wr _ by repeat (first | exact Below.refl _ _ | assumption | refine Below.drew ?_ | refine below_drewN ?_ _ | refine Below.setCell ?_ (by first | exact Nat.le_refl _ | exact Below.size (by assumption) | (simp; done) | (simp; omega) | omega) _ | refine Below.alloc ?_ (by first | exact Nat.le_refl _ | exact Below.size (by assumption) | (simp; done) | (simp; omega) | omega) _)) (hb2.mono (by simp; omega))
      have HD2 := Lib.hid (HD.out.below hba)
      have HB2 := Lib.hid (below_after HB.out hba)
      have hz2 := hba.size
      clear hba hb2 HD HB hca hcb
      go_wp2_with fail
      refine (writeString_any w.heap.size w.heap.size _ (pairF p) _ HD2.out ?_ (by omega)).mono ?_
      · have h1 := sumB_len (l := l.take k) (fun q hq => HS.out q (List.mem_of_mem_take hq))
        have h2 := HPB.out
        rw [List.length_take] at h1
        omega
      rintro e w3 ⟨rfl, hd3, hb3⟩
      have HD3 := Lib.hid hd3
      have HB3 := Lib.hid (HB2.out.trans hb3)
      clear hd3 hb3 HD2
      go_wp2_with fail
      go_roundw
      case rel =>
        refine ⟨k + 1, by omega, by go_num, ?_, HB3.out⟩
        have e : sumB (l.take (k + 1)) = sumB (l.take k) ++ pairF p := by
          unfold sumB
          rw [flatMap_take _ _ _ hlt, ← HP.out]
        rw [e]
        exact HD3.out
      case measure => simp [intOf]; omega
    · have HB := Lib.hid hb
      clear hb
      go_wp2_with fail
      refine (string_any w.heap.size w.heap.size _ _ HD.out (by omega)).mono ?_
      rintro e w2 ⟨rfl, hb2⟩
      have HB2 := Lib.hid (HB.out.trans hb2)
      have e : sumB (l.take k) = sumB l := by rw [List.take_of_length_le (by omega)]
      have HE := Lib.hid e
      have hsl := sumB_len HS.out
      clear hb2 e
      go_wp2_with fail
      rw [HE.out]
      refine (sumOf_any (sumB l) _ (by omega)).mono ?_
      rintro e w3 ⟨rfl, hb3⟩
      have HB3 := Lib.hid (below_after HB2.out hb3)
      clear hb3
      go_wp2_with fail
      go_ret
      exact ⟨rfl, HB3.out⟩
end Go.Proofs.Ytlfnpnkpjdmonaa
