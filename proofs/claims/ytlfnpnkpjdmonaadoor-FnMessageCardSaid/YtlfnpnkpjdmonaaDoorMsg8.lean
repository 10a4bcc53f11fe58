import Derived.Test.YtlfnpnkpjdmonaaDoorMsg7
import Derived.Laws.BytesArg
import Derived.Laws.BytesString
import Derived.Lib.ConvBytes
set_option linter.unusedVariables false
set_option linter.unusedSimpArgs false
namespace Go.Proofs.YtlfnpnkpjdmonaaDoor
open Go.RowKit

/-! ### bytes to a text and back -/
theorem str_bytes (xs : List UInt8) : strOfNums (xs.map fun c => (c.toNat : Int)) = bs xs := by
  apply Go.WideShapes.bytes_inj
  rw [strOfNums_data, bs_data, List.map_map]
  conv => rhs; rw [← List.map_id xs]
  apply List.map_congr_left
  intro c _
  simp
theorem conv_rd {w : World} {B : Nat} {A : Option Addr} {c : Nat} {xs : List UInt8} (h : Rd w B A (xs.map bv)) : (convert 45 9 (.slice A xs.length c)).run Tryd.prog w = .ok (.string (bs xs)) w := by
  by_cases hn : xs = []
  · subst hn
    cases A with
    | none => exact run_convert_bytes_nil w 45 5 Tryd.underlying45 Tryd.underlying5 0 c 9 Tryd.underlying9
    | some ad =>
      have hl : (loadCells ad 0).run Tryd.prog w = .ok #[] w := run_loadCells_list (P := Tryd.prog) w ad [] (fun j v hj => by simp at hj)
      rw [List.length_nil, run_convert_bytes_string w 45 9 5 _ 0 c Tryd.underlying45 Tryd.underlying5 Tryd.underlying9, run_bytesToString w _ 0 c [] hl]
      rfl
  · obtain ⟨ad, rfl, _, hc⟩ := h (by simpa using hn)
    have hl : (loadCells ad xs.length).run Tryd.prog w = .ok ((xs.map fun c => (c.toNat : Int)).map (Value.int .u8)).toArray w := by
      have := run_loadCells_list (P := Tryd.prog) w ad ((xs.map fun c => (c.toNat : Int)).map (Value.int .u8)) (fun j v hj => hc j v (by rw [← hj, List.map_map]; rfl))
      simpa using this
    rw [run_convert_bytes_string w 45 9 5 _ xs.length c Tryd.underlying45 Tryd.underlying5 Tryd.underlying9, run_bytesToString w _ xs.length c _ hl, foldl_push_bytes]
    congr 2
    rw [← str_bytes]
    simp [strOfNums, ByteArray.empty, ByteArray.emptyWithCapacity]
    rfl
/-- a row of bytes that a conversion made: the place behind its last cell is marked -/
structure By (w : World) (g : Nat) (l : List UInt8) : Prop where
  ex : ∃ cs : Array Value, w.heap[g]? = some (.cells cs 5 (cs.size, cs.size + 1)) ∧ cs.toList.take l.length = l.map bv ∧ l.length ≤ cs.size
theorem By.cell {w : World} {g : Nat} {l : List UInt8} (h : By w g l) {i : Nat} (hi : i < l.length) : w.cell? ⟨g, i, none⟩ = some (bv l[i]) := by
  obtain ⟨cs, h1, h2, h3⟩ := h.ex
  rw [cell_of_row w g i _ _ _ h1]
  have e : (cs.toList.take l.length)[i]? = (l.map bv)[i]? := by rw [h2]
  rw [List.getElem?_take, if_pos hi, List.getElem?_map, List.getElem?_eq_getElem hi] at e
  simpa using e
theorem By.frozen {w : World} {g : Nat} {l : List UInt8} (h : By w g l) {i : Nat} (hi : i < l.length) : w.frozen? ⟨g, i, none⟩ = false := by
  obtain ⟨cs, h1, h2, h3⟩ := h.ex
  unfold World.frozen?
  simp only [h1]
  have : ¬ cs.size ≤ i := by omega
  simp [this]
theorem By.lt {w : World} {g : Nat} {l : List UInt8} (h : By w g l) : g < w.heap.size := by
  obtain ⟨cs, h1, _⟩ := h.ex
  exact (Array.getElem?_eq_some_iff.1 h1).1
theorem By.rd {w : World} {g : Nat} {l : List UInt8} (h : By w g l) : Rd w w.heap.size (some ⟨g, 0, none⟩) (l.map bv) := fun _ => ⟨_, rfl, h.lt, fun j u hj => by
  rw [addr_lit, Nat.zero_add]
  rw [List.getElem?_map, Option.map_eq_some_iff] at hj
  obtain ⟨x, hx, rfl⟩ := hj
  obtain ⟨hjl, rfl⟩ := List.getElem?_eq_some_iff.1 hx
  exact h.cell hjl⟩
theorem heap_setCell_row {w : World} {g i T : Nat} {cs : Array Value} {fr : Nat × Nat} (u : Value) (h : w.heap[g]? = some (.cells cs T fr)) : (w.setCell ⟨g, i, none⟩ u).heap[g]? = some (.cells (cs.setIfInBounds i u) T fr) := by
  simp [World.setCell, Array.getElem?_modify, h]
theorem By.set {w : World} {g : Nat} {l : List UInt8} (h : By w g l) {i : Nat} (hi : i < l.length) (c : UInt8) {u : Value} (hu : u = bv c) : By (w.setCell ⟨g, i, none⟩ u) g (l.set i c) := by
  subst hu
  obtain ⟨cs, h1, h2, h3⟩ := h.ex
  refine ⟨cs.setIfInBounds i (bv c), ?_, ?_, ?_⟩
  · rw [Array.size_setIfInBounds]
    exact heap_setCell_row _ h1
  · rw [List.length_set, Array.toList_setIfInBounds, List.take_set, h2, List.map_set]
  · rw [List.length_set, Array.size_setIfInBounds]
    exact h3
theorem conv_by (w : World) (l : List UInt8) : ∃ (cap : Nat) (w' : World), (convert 9 45 (.string (bs l))).run Tryd.prog w = .ok (.slice (some ⟨w.heap.size, 0, none⟩) l.length cap) w' ∧ Below w.heap.size w w' ∧ w.heap.size < w'.heap.size ∧ By w' w.heap.size l := by
  have h := Go.Lib.run_convert_string_bytes (P := Tryd.prog) w 9 45 5 (bs l) Tryd.underlying9 Tryd.underlying45 Tryd.underlying5
  rw [bs_size] at h
  refine ⟨_, _, h, ⟨rfl, rfl, rfl, by rw [Go.Lib.bytesWorld_size]; omega, fun k hk => Go.Lib.bytesWorld_at_old w _ _ k hk⟩, by rw [Go.Lib.bytesWorld_size]; omega, ⟨_, Go.Lib.bytesWorld_at_new w _ _, ?_, ?_⟩⟩
  · unfold Go.Lib.bytesCells
    simp only [Array.toList_append, Array.toList_map]
    rw [List.take_append_of_le_length (by simp), List.take_of_length_le (by simp)]
  · unfold Go.Lib.bytesCells
    simp

/-! ### small letters -/
def lowB (c : UInt8) : UInt8 := if 65 ≤ c.toNat ∧ c.toNat ≤ 90 then UInt8.ofNat (c.toNat + 32) else c
theorem lowB_in {c : UInt8} (h1 : 65 ≤ c.toNat) (h2 : c.toNat ≤ 90) : Value.int .u8 ((c.toNat : Int) + 32) = bv (lowB c) := by
  unfold lowB bv
  rw [if_pos ⟨h1, h2⟩]
  have : (UInt8.ofNat (c.toNat + 32)).toNat = c.toNat + 32 := by simp; omega
  rw [this]
  rfl
theorem lowB_out {c : UInt8} (h : ¬ (65 ≤ c.toNat ∧ c.toNat ≤ 90)) : lowB c = c := if_neg h
def lowK (k : Nat) (l : List UInt8) : List UInt8 := (l.take k).map lowB ++ l.drop k
theorem lowK_len (k : Nat) (l : List UInt8) : (lowK k l).length = l.length := by simp [lowK]; omega
theorem lowK_at {k : Nat} {l : List UInt8} (h : k < l.length) : (lowK k l)[k]'(by rw [lowK_len]; exact h) = l[k] := by
  unfold lowK
  rw [List.getElem_append_right (by simp; omega)]
  simp [show min k l.length = k from by omega]
theorem lowK_step {k : Nat} {l : List UInt8} (h : k < l.length) : (lowK k l).set k (lowB l[k]) = lowK (k + 1) l := by
  unfold lowK
  rw [List.set_append, if_neg (by simp; omega), List.take_succ_eq_append_getElem h, List.map_append, List.append_assoc]
  congr 1
  rw [List.length_map, List.length_take, show k - min k l.length = 0 from by omega, List.drop_eq_getElem_cons h]
  rfl
theorem lowK_same {k : Nat} {l : List UInt8} (h : k < l.length) (hl : lowB l[k] = l[k]) : lowK k l = lowK (k + 1) l := by
  rw [← lowK_step h, hl]
  have := lowK_at h
  rw [← this, List.set_getElem_self]
theorem lowK_all (l : List UInt8) : lowK l.length l = l.map lowB := by simp [lowK]
set_option maxRecDepth 100000 in
set_option maxHeartbeats 1000000 in
theorem lower_any (l : List UInt8) (w : World) (hl : l.length ≤ 1048576) :
    Calls Tryd.prog 66 #[.string (bs l)] w fun e w' => e = .returned (.string (bs (l.map lowB))) ∧ Below w.heap.size w w' := by
  have hs0 := bs_size l
  obtain ⟨cap, w1, hrun, hb1, hs1, hby⟩ := conv_by w l
  have HB1 := Lib.hid hb1
  have HY := Lib.hid hby
  clear hb1 hby
  go_enter Tryd.func66, Tryd.ntmps66
  go_wp2_with fail
  clear hrun
  go_loopw [10] (fun i wr => ∃ k : Nat, k ≤ l.length ∧ i = .int .i64 k ∧ By wr w.heap.size (lowK k l) ∧ Below w.heap.size w wr) (fun i _ => l.length - (intOf i).toNat)
  case atStart => exact ⟨0, Nat.zero_le _, rfl, by rw [show lowK 0 l = l from by simp [lowK]]; exact HY.out, HB1.out⟩
  case round =>
    obtain ⟨k, hk, rfl, hby, hb⟩ := hrel
    have HY2 := Lib.hid hby
    have HB := Lib.hid hb
    have hlw := hby.lt
    by_cases hlt : k < l.length
    · have hkl : k < (lowK k l).length := by rw [lowK_len]; exact hlt
      have c0 : wr.cell? ⟨w.heap.size, k, none⟩ = some (.int .u8 l[k].toNat) := by rw [hby.cell hkl, lowK_at hlt]
      have f0 : wr.frozen? ⟨w.heap.size, k, none⟩ = false := hby.frozen hkl
      have hc8 : (l[k].toNat : Int) ≤ 255 := by have := l[k].toNat_lt; omega
      have HKL := Lib.hid hkl
      clear hby hb hkl
      by_cases h1 : (l[k].toNat : Int) < 65
      · have HS := Lib.hid (lowK_same hlt (lowB_out (by omega)))
        go_wp2_with fail
        go_roundw
        case rel => exact ⟨k + 1, by omega, by go_num, by rw [← HS.out]; exact HY2.out, HB.out⟩
        case measure => simp [intOf]; omega
      · by_cases h2 : 90 < (l[k].toNat : Int)
        · have HS := Lib.hid (lowK_same hlt (lowB_out (by omega)))
          go_wp2_with fail
          go_roundw
          case rel => exact ⟨k + 1, by omega, by go_num, by rw [← HS.out]; exact HY2.out, HB.out⟩
          case measure => simp [intOf]; omega
        · have HS := Lib.hid (lowK_step hlt)
          have HL := Lib.hid (lowB_in (c := l[k]) (by omega) (by omega))
          go_wp2_with fail
          go_roundw
          case rel => exact ⟨k + 1, by omega, by go_num, by rw [← HS.out]; exact HY2.out.set HKL.out _ HL.out, HB.out.setCell (p := ⟨w.heap.size, k, none⟩) (Nat.le_refl _) _⟩
          case measure => simp [intOf]; omega
    · have hkl : k = l.length := by omega
      subst hkl
      have hcv := conv_rd (c := cap) hby.rd
      rw [lowK_len, lowK_all] at hcv
      clear hby hb
      go_wp2_with fail
      go_ret
      exact ⟨rfl, HB.out⟩
set_option maxRecDepth 100000 in
set_option maxHeartbeats 1000000 in
theorem l08Small_any (l : List UInt8) (w : World) (hl : l.length ≤ 1048576) :
    Calls Tryd.prog 63 #[.string (bs l)] w fun e w' => e = .returned (.string (bs (l.map lowB))) ∧ Below w.heap.size w w' := by
  have hs0 := bs_size l
  have H0 : Hid ((w.alloc (.cells #[] 5)).ownsRow w.heap.size 5 1 (.slice (some ⟨w.heap.size, 0, none⟩) 0 0) 0 []) := own_empty_at (Nat.le_refl _) (heap_alloc_new _ _)
  have HB0 : Hid (Below w.heap.size w (w.alloc (.cells #[] 5))) := by show Below _ _ _; repeat (first | exact Below.refl _ _ | assumption | refine Below.drew ?_ | refine below_drewN ?_ _ | refine Below.setCell ?_ (by first | exact Nat.le_refl _ | exact Below.size (by assumption) | (simp; done) | (simp; omega) | omega) _ | refine Below.alloc ?_ (by first | exact Nat.le_refl _ | exact Below.size (by assumption) | (simp; done) | (simp; omega) | omega) _)
  go_enter Tryd.func63, Tryd.ntmps63
  go_wp2_with fail
  go_loopw [3, 4] (fun v i wr => ∃ k : Nat, k ≤ l.length ∧ i = .int .i64 k ∧ wr.ownsRow w.heap.size 5 1 v k (((l.take k).map lowB).map bv) ∧ Below w.heap.size w wr) (fun _ i _ => l.length - (intOf i).toNat)
  case atStart => exact ⟨0, Nat.zero_le _, rfl, by simpa using H0.out, HB0.out⟩
  case round =>
    obtain ⟨k, hk, rfl, ho, hb⟩ := hrel
    have HO := Lib.hid ho
    have HB := Lib.hid hb
    obtain ⟨A0, n0, rfl, _⟩ := own_form ho
    have hsw := hb.size
    by_cases hlt : k < l.length
    · have hk2 : k < (bs l).size := by rw [bs_size]; exact hlt
      have hc8 : (l[k].toNat : Int) ≤ 255 := by have := l[k].toNat_lt; omega
      have hc8b : ((bs l)[k].toNat : Int) ≤ 255 := hc8
      have HEQ : Hid (List.take k (List.map (bv ∘ lowB) l) = ((l.take k).map lowB).map bv) := by show _ = _; rw [List.map_map, List.map_take]
      have HTK : Hid ((l.take (k + 1)).map lowB = (l.take k).map lowB ++ [lowB l[k]]) := by show _ = _; rw [List.take_succ_eq_append_getElem hlt, List.map_append]; rfl
      clear ho hb
      cases hw : withinB ((bs l)[k].toNat) 65 90 with
      | false =>
        have HL : Hid (bv (lowB l[k]) = .int .u8 (l[k].toNat)) := by
          have h2 : withinB l[k].toNat 65 90 = false := hw
          simp only [withinB, Bool.and_eq_false_iff, decide_eq_false_iff_not] at h2
          show bv _ = _
          rw [lowB_out (by omega)]
        go_wp2_with (first | (go_at_call 76; refine (in_any _ _ _ _).mono ?_; rintro e w' ⟨rfl, rfl⟩) | (at_builtin; refine push_one elByte rfl _ _ rfl w.heap.size _ k _ rfl HO.out [.int .u8 (l[k].toNat)] _ rfl rfl rfl (by simp [Value.oneCell']) (by simp only [maxLen]; omega) (by omega) (by omega) ?_))
        intro v2 w2 hp
        have HP := Lib.hid hp.1
        have HB2 := Lib.hid (hp.below HO.out HB.out hsw)
        obtain ⟨A2, n2, rfl, _⟩ := own_form hp.1
        clear hp
        go_wp2_with fail
        go_roundw
        case rel => exact ⟨k + 1, by omega, by go_num, by rw [HTK.out, List.map_append, List.map_cons, List.map_nil, HL.out]; have h := HP.out; rw [HEQ.out] at h; exact h, HB2.out⟩
        case measure => simp [intOf]; omega
      | true =>
        have hw2 := hw
        simp only [withinB, Bool.and_eq_true, decide_eq_true_eq] at hw2
        have HL : Hid (Value.int .u8 ((l[k].toNat : Int) + 32) = bv (lowB l[k])) := by
          have h2 : withinB l[k].toNat 65 90 = true := hw
          simp only [withinB, Bool.and_eq_true, decide_eq_true_eq] at h2
          exact lowB_in (by omega) (by omega)
        go_wp2_with (first | (go_at_call 76; refine (in_any _ _ _ _).mono ?_; rintro e w' ⟨rfl, rfl⟩) | (at_builtin; refine push_one elByte rfl _ _ rfl w.heap.size _ k _ rfl HO.out [.int .u8 ((l[k].toNat : Int) + 32)] _ rfl rfl rfl (by simp [Value.oneCell']) (by simp only [maxLen]; omega) (by omega) (by omega) ?_))
        intro v2 w2 hp
        have HP := Lib.hid hp.1
        have HB2 := Lib.hid (hp.below HO.out HB.out hsw)
        obtain ⟨A2, n2, rfl, _⟩ := own_form hp.1
        clear hp
        go_wp2_with fail
        go_roundw
        case rel => exact ⟨k + 1, by omega, by go_num, by rw [HTK.out, List.map_append, List.map_cons, List.map_nil, ← HL.out]; have h := HP.out; rw [HEQ.out] at h; exact h, HB2.out⟩
        case measure => simp [intOf]; omega
    · have hkl : k = l.length := by omega
      subst hkl
      rw [List.take_length] at ho
      have hcv := conv_rd (c := n0) (xs := l.map lowB) (Rd.own ho)
      rw [List.length_map] at hcv
      clear ho hb
      go_wp2_with fail
      go_ret
      exact ⟨rfl, HB.out⟩
end Go.Proofs.YtlfnpnkpjdmonaaDoor
