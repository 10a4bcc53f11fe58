import Derived.Test.YtlfnpnkpjdmonaaCodec2
set_option linter.unusedVariables false
set_option linter.unusedSimpArgs false
namespace Go.Proofs.Ytlfnpnkpjdmonaa
open Go.RowKit

/-! ### texts of bytes that are read -/
theorem conv_rd {w : World} {B : Nat} {A : Option Addr} {c : Nat} {xs : List UInt8} (h : Rd w B A (xs.map bv)) : (convert 39 9 (.slice A xs.length c)).run Try.prog w = .ok (.string (bs xs)) w := by
  by_cases hn : xs = []
  · subst hn
    cases A with
    | none => exact run_convert_bytes_nil w 39 5 Try.underlying39 Try.underlying5 0 c 9 Try.underlying9
    | some ad =>
      have hl : (loadCells ad 0).run Try.prog w = .ok #[] w := run_loadCells_list (P := Try.prog) w ad [] (fun j v hj => by simp at hj)
      rw [List.length_nil, run_convert_bytes_string w 39 9 5 _ 0 c Try.underlying39 Try.underlying5 Try.underlying9, run_bytesToString w _ 0 c [] hl]
      rfl
  · obtain ⟨ad, rfl, _, hc⟩ := h (by simpa using hn)
    have hl : (loadCells ad xs.length).run Try.prog w = .ok ((xs.map fun c => (c.toNat : Int)).map (Value.int .u8)).toArray w := by
      have := run_loadCells_list (P := Try.prog) w ad ((xs.map fun c => (c.toNat : Int)).map (Value.int .u8)) (fun j v hj => hc j v (by rw [← hj, List.map_map]; rfl))
      simpa using this
    rw [run_convert_bytes_string w 39 9 5 _ xs.length c Try.underlying39 Try.underlying5 Try.underlying9, run_bytesToString w _ xs.length c _ hl, foldl_push_bytes]
    congr 2
    rw [← str_bytes]
    simp [strOfNums, ByteArray.empty, ByteArray.emptyWithCapacity]
    rfl
theorem conv_bytes_rd (w : World) (l : List UInt8) : ∃ (g cap : Nat) (w' : World), (convert 9 39 (.string (bs l))).run Try.prog w = .ok (.slice (some ⟨g, 0, none⟩) l.length cap) w' ∧ Below w.heap.size w w' ∧ g = w.heap.size ∧ w.heap.size < w'.heap.size ∧ Rd w' w'.heap.size (some ⟨g, 0, none⟩) (l.map bv) := by
  obtain ⟨cap, w', h1, h2, h3, h4⟩ := conv_bytes w l
  refine ⟨_, cap, w', h1, h2, rfl, h3, fun _ => ⟨_, rfl, h3, fun j u hj => ?_⟩⟩
  rw [List.getElem?_map, Option.map_eq_some_iff] at hj
  obtain ⟨x, hx, rfl⟩ := hj
  obtain ⟨hjl, rfl⟩ := List.getElem?_eq_some_iff.1 hx
  have e2 : (⟨w.heap.size, 0, none⟩ : Addr).add j = ⟨w.heap.size, j, none⟩ := by
    unfold Addr.add
    by_cases h0 : j = 0 <;> simp [h0]
  rw [e2]
  exact h4 j hjl
set_option maxRecDepth 100000 in
theorem implReadFields_rd (A : Option Addr) (c B : Nat) (xs : List UInt8) (w : World) (hv : Rd w B A (xs.map bv)) (hl : xs.length ≤ 4194304) :
    Calls Try.prog 32 #[.slice A xs.length c] w (RFPost w xs) := by
  have hml : xs.length ≤ 4194304 := hl
  by_cases h6 : 65536 < xs.length
  · have HR := Lib.hid (rf_long h6)
    clear hv
    go_enter Try.func32, Try.ntmps32
    go_wp2
    go_ret2
    exact rf_mk HR.out (World.ownsRow_nil _ _ _ _) (by simp) (Below.refl _ _)
  · have hcv := conv_rd (c := c) hv
    have H6 := Lib.hid h6
    go_enter Try.func32, Try.ntmps32
    go_wp2_with fail
    refine (justFields_any xs _ hl).mono ?_
    rintro e w1 ⟨u, out, ok, rfl, ho, h255, hok, hall, hb1⟩
    have HO := Lib.hid ho
    have HB := Lib.hid hb1
    have HALL := Lib.hid hall
    clear ho hall hcv hv hb1 h6
    cases hf : full xs with
    | none =>
      have HF := Lib.hid hf
      rw [hf] at hok
      simp only [Option.isSome_none] at hok
      subst hok
      clear hf
      go_wp2
      go_ret2
      exact rf_mk (rf_no H6.out HF.out) (World.ownsRow_nil _ _ _ _) (by simp) HB.out
    | some ys =>
      have HF := Lib.hid hf
      rw [hf] at hok
      simp only [Option.isSome_some] at hok
      subst hok
      clear hf
      obtain rfl := HALL.out ys HF.out
      go_wp2
      go_ret2
      exact rf_mk (rf_ok H6.out HF.out) HO.out h255 HB.out

set_option maxRecDepth 100000 in
theorem specReadFields_rd (A : Option Addr) (c B : Nat) (xs : List UInt8) (w : World) (hv : Rd w B A (xs.map bv)) (hl : xs.length ≤ 4194304) :
    Calls Try.prog 30 #[.slice A xs.length c] w (RFPost w xs) := by
  have hml : xs.length ≤ 4194304 := hl
  by_cases h6 : 65536 < xs.length
  · have HR := Lib.hid (rf_long h6)
    clear hv
    go_enter Try.func30, Try.ntmps30
    go_wp2
    go_ret2
    exact rf_mk HR.out (own_empty_at (Nat.le_refl _) (heap_alloc_new _ _)) (by simp) (by repeat (first | exact Below.refl _ _ | assumption | refine Below.drew ?_ | refine below_drewN ?_ _ | refine Below.setCell ?_ (by first | exact Nat.le_refl _ | exact Below.size (by assumption) | (simp; done) | (simp; omega) | omega) _ | refine Below.alloc ?_ (by first | exact Nat.le_refl _ | exact Below.size (by assumption) | (simp; done) | (simp; omega) | omega) _))
  · have hcv := conv_rd (c := c) hv
    have H6 := Lib.hid h6
    go_enter Try.func30, Try.ntmps30
    go_wp2_with fail
    refine (l01Read_any xs _ hl).mono ?_
    rintro e w1 ⟨u, out, ok, rfl, ho, h255, hok, hall, hb1⟩
    have HO := Lib.hid ho
    have HB := Lib.hid hb1
    have HALL := Lib.hid hall
    have hsz1 := hb1.size
    clear ho hall hcv hv hb1 h6
    cases hf : full xs with
    | none =>
      have HF := Lib.hid hf
      rw [hf] at hok
      simp only [Option.isSome_none] at hok
      subst hok
      clear hf
      go_wp2
      go_ret2
      exact rf_mk (rf_no H6.out HF.out) (own_empty_at hsz1 (heap_alloc_new _ _)) (by simp) (HB.out.alloc hsz1 _)
    | some ys =>
      have HF := Lib.hid hf
      rw [hf] at hok
      simp only [Option.isSome_some] at hok
      subst hok
      clear hf
      obtain rfl := HALL.out ys HF.out
      go_wp2
      go_ret2
      exact rf_mk (rf_ok H6.out HF.out) HO.out h255 HB.out

/-! ### fields, written -/
theorem longText_any (l : List UInt8) (w : World) (hl : l.length ≤ 4611686018427387904) : Calls Try.prog 125 #[sv l] w fun e w' => e = .returned (.bool (decide (300 < l.length))) ∧ w = w' := by
  have hsz : (bs l).size = l.length := by simp [ByteArray.size]
  by_cases h : 300 < l.length
  · go_enter Try.func125, Try.ntmps125
    go_wp2
    go_ret
    exact ⟨ret_b (by simp; try omega), rfl⟩
  · go_enter Try.func125, Try.ntmps125
    go_wp2
    go_ret
    exact ⟨ret_b (by simp; try omega), rfl⟩
def longB (x : List UInt8) : Bool := decide (300 < x.length)
theorem any_take_false {α : Type} {p : α → Bool} {xs : List α} {k : Nat} (h : k < xs.length) (ht : (xs.take k).any p = false) (hp : p xs[k] = false) : (xs.take (k + 1)).any p = false := by
  rw [List.take_succ_eq_append_getElem h, List.any_append, ht]
  simp [hp]
theorem any_at {α : Type} {p : α → Bool} {xs : List α} {k : Nat} (h : k < xs.length) (hp : p xs[k] = true) : xs.any p = true := by
  rw [List.any_eq_true]
  exact ⟨_, List.getElem_mem _, hp⟩
theorem any_all {α : Type} {p : α → Bool} {xs : List α} {k : Nat} (hk : xs.length ≤ k) (ht : (xs.take k).any p = false) : xs.any p = false := by rwa [List.take_of_length_le hk] at ht
set_option maxRecDepth 100000 in
theorem indexLong_any (A : Option Addr) (c : Nat) (xs : List (List UInt8)) (w : World) (hx : Rd w w.heap.size A (xs.map sv)) (hl : xs.length ≤ 4096) (hs : ∀ x ∈ xs, x.length ≤ 4611686018427387904) :
    Calls Try.prog 188 #[.slice A xs.length c, .func (.func 125) #[] #[]] w fun e w' => ∃ n : Int, e = .returned (.int .i64 n) ∧ decide (0 ≤ n) = xs.any longB ∧ w = w' := by
  generalize hr : xs.any longB = r
  have HR := Lib.hid hr
  have HX := Lib.hid hx
  have HS := Lib.hid hs
  clear hr hx hs
  go_enter Try.func188, Try.ntmps188
  go_wp2
  go_loop [8] (fun i => ∃ k : Nat, k ≤ xs.length ∧ i = .int .i64 k ∧ (xs.take k).any longB = false) (fun i => xs.length - (intOf i).toNat)
  case atStart => exact ⟨0, Nat.zero_le _, rfl, rfl⟩
  case round =>
    obtain ⟨k, hk, rfl, ht⟩ := hrel
    have HT := Lib.hid ht
    clear ht
    by_cases hlt : k < xs.length
    · obtain ⟨ad, rfl, _, hca⟩ := HX.out.at_ (map_at hlt)
      have hsl := HS.out _ (List.getElem_mem hlt)
      cases hd : decide (300 < xs[k].length) with
      | true =>
        have HD := Lib.hid hd
        clear hd
        go_wp2_with fail
        refine (longText_any xs[k] _ hsl).mono ?_
        rw [HD.out]
        rintro e w1 ⟨rfl, rfl⟩
        go_wp2_with fail
        go_ret
        exact ⟨k, rfl, by rw [← HR.out, any_at hlt (by unfold longB; exact HD.out)]; exact decide_eq_true (by omega), rfl⟩
      | false =>
        have HD := Lib.hid hd
        clear hd
        go_wp2_with fail
        refine (longText_any xs[k] _ hsl).mono ?_
        rw [HD.out]
        rintro e w1 ⟨rfl, rfl⟩
        go_wp2_with fail
        go_round
        case rel => exact ⟨k + 1, by omega, by go_num, any_take_false hlt HT.out (by unfold longB; exact HD.out)⟩
        case measure => simp [intOf]; omega
    · go_wp2
      go_ret
      exact ⟨-1, rfl, by rw [← HR.out, any_all (by omega) HT.out]; decide, rfl⟩
theorem containsLong_any (A : Option Addr) (c : Nat) (xs : List (List UInt8)) (w : World) (hx : Rd w w.heap.size A (xs.map sv)) (hl : xs.length ≤ 4096) (hs : ∀ x ∈ xs, x.length ≤ 4611686018427387904) :
    Calls Try.prog 112 #[.slice A xs.length c, .func (.func 125) #[] #[]] w fun e w' => e = .returned (.bool (xs.any longB)) ∧ w = w' := by
  have HX := Lib.hid hx
  have HS := Lib.hid hs
  clear hx hs
  go_enter Try.func112, Try.ntmps112
  go_wp2_with fail
  refine (indexLong_any A c xs _ HX.out hl HS.out).mono ?_
  rintro e w1 ⟨n, rfl, hn, rfl⟩
  have HN := Lib.hid hn
  clear hn
  by_cases h0 : 0 ≤ n
  · go_wp2_with fail
    go_ret
    exact ⟨ret_b (by rw [← HN.out]; try simp [h0]), rfl⟩
  · go_wp2_with fail
    go_ret
    exact ⟨ret_b (by rw [← HN.out]; try simp [h0]), rfl⟩
def fbM (xs : List (List UInt8)) : List UInt8 × Int := if 4096 < xs.length then ([], 2) else if 200 < xs.length then ([], 6) else if xs.any longB then ([], 4) else (fieldsB xs, 0)
def FBPost (xs : List (List UInt8)) (w : World) (e : Ending) (w' : World) : Prop := ∃ A c, e = .returned (.tuple #[.slice A (fbM xs).1.length c, .int .i64 (fbM xs).2]) ∧ Rd w' w'.heap.size A ((fbM xs).1.map bv) ∧ Below w.heap.size w w'
theorem fb_mk {xs : List (List UInt8)} {r : List UInt8 × Int} (hr : fbM xs = r) {w w' : World} {A : Option Addr} {c n : Nat} (hn : n = r.1.length) (hx : Rd w' w'.heap.size A (r.1.map bv)) (hb : Below w.heap.size w w') : FBPost xs w (.returned (.tuple #[.slice A n c, .int .i64 r.2])) w' := by
  subst hr hn
  exact ⟨A, c, rfl, hx, hb⟩
set_option maxRecDepth 100000 in
theorem implFieldsBytes_any (A : Option Addr) (c : Nat) (xs : List (List UInt8)) (w : World) (hx : Rd w w.heap.size A (xs.map sv)) (hl : xs.length ≤ 1048576) (hs : ∀ x ∈ xs, x.length ≤ 4194304) :
    Calls Try.prog 48 #[.slice A xs.length c] w (FBPost xs w) := by
  have HX := Lib.hid hx
  have HS := Lib.hid hs
  clear hx hs
  by_cases h1 : 4096 < xs.length
  · have HR : Hid (fbM xs = ([], 2)) := by show _ = _; simp [fbM, h1]
    go_enter Try.func48, Try.ntmps48
    go_wp2
    go_ret2
    exact fb_mk HR.out rfl (Rd.nil _ _ _) (Below.refl _ _)
  · by_cases h2 : 200 < xs.length
    · have HR : Hid (fbM xs = ([], 6)) := by show _ = _; simp [fbM, h1, h2]
      go_enter Try.func48, Try.ntmps48
      go_wp2
      go_ret2
      exact fb_mk HR.out rfl (Rd.nil _ _ _) (Below.refl _ _)
    · cases h3 : xs.any longB with
      | true =>
        have HR : Hid (fbM xs = ([], 4)) := by show _ = _; simp [fbM, h1, h2, h3]
        have H3 := Lib.hid h3
        clear h3
        go_enter Try.func48, Try.ntmps48
        go_wp2_with fail
        refine (containsLong_any A c xs _ HX.out (by omega) (fun x hx => by have := HS.out x hx; omega)).mono ?_
        rw [H3.out]
        rintro e w1 ⟨rfl, rfl⟩
        go_wp2_with fail
        go_ret2
        exact fb_mk HR.out rfl (Rd.nil _ _ _) (Below.refl _ _)
      | false =>
        have HR : Hid (fbM xs = (fieldsB xs, 0)) := by show _ = _; simp [fbM, h1, h2, h3]
        have H3 := Lib.hid h3
        clear h3
        go_enter Try.func48, Try.ntmps48
        go_wp2_with fail
        refine (containsLong_any A c xs _ HX.out (by omega) (fun x hx => by have := HS.out x hx; omega)).mono ?_
        rw [H3.out]
        rintro e w1 ⟨rfl, rfl⟩
        go_wp2_with fail
        refine (fields_bytes A c xs _ HX.out (by omega) HS.out).mono ?_
        rintro e w1 ⟨rfl, hb1⟩
        obtain ⟨g, cap, w2, hrun, hb2, rfl, _, hr2⟩ := conv_bytes_rd w1 (fieldsB xs)
        have HB := Lib.hid (below_after hb1 hb2)
        have HR2 := Lib.hid hr2
        clear hb1 hb2 hr2
        go_wp2_with fail
        go_ret2
        exact fb_mk HR.out rfl HR2.out HB.out
set_option maxRecDepth 100000 in
theorem specFieldsBytes_any (A : Option Addr) (c : Nat) (xs : List (List UInt8)) (w : World) (hx : Rd w w.heap.size A (xs.map sv)) (hl : xs.length ≤ 1048576) (hs : ∀ x ∈ xs, x.length ≤ 4194304) :
    Calls Try.prog 49 #[.slice A xs.length c] w (FBPost xs w) := by
  have HX := Lib.hid hx
  have HS := Lib.hid hs
  clear hx hs
  by_cases h1 : 4096 < xs.length
  · have HR : Hid (fbM xs = ([], 2)) := by show _ = _; simp [fbM, h1]
    go_enter Try.func49, Try.ntmps49
    go_wp2
    go_ret2
    exact fb_mk HR.out rfl (Rd.nil _ _ _) (by repeat (first | exact Below.refl _ _ | assumption | refine Below.drew ?_ | refine below_drewN ?_ _ | refine Below.setCell ?_ (by first | exact Nat.le_refl _ | exact Below.size (by assumption) | (simp; done) | (simp; omega) | omega) _ | refine Below.alloc ?_ (by first | exact Nat.le_refl _ | exact Below.size (by assumption) | (simp; done) | (simp; omega) | omega) _))
  · by_cases h2 : 200 < xs.length
    · have HR : Hid (fbM xs = ([], 6)) := by show _ = _; simp [fbM, h1, h2]
      go_enter Try.func49, Try.ntmps49
      go_wp2
      go_ret2
      exact fb_mk HR.out rfl (Rd.nil _ _ _) (by repeat (first | exact Below.refl _ _ | assumption | refine Below.drew ?_ | refine below_drewN ?_ _ | refine Below.setCell ?_ (by first | exact Nat.le_refl _ | exact Below.size (by assumption) | (simp; done) | (simp; omega) | omega) _ | refine Below.alloc ?_ (by first | exact Nat.le_refl _ | exact Below.size (by assumption) | (simp; done) | (simp; omega) | omega) _))
    · have HM := Lib.hid (show fbM xs = if xs.any longB then ([], 4) else (fieldsB xs, 0) by simp [fbM, h1, h2])
      go_enter Try.func49, Try.ntmps49
      go_wp2
      go_loop [4] (fun i => ∃ k : Nat, k ≤ xs.length ∧ i = .int .i64 k ∧ (xs.take k).any longB = false) (fun i => xs.length - (intOf i).toNat)
      case atStart => exact ⟨0, Nat.zero_le _, rfl, rfl⟩
      case round =>
        obtain ⟨k, hk, rfl, ht⟩ := hrel
        have HT := Lib.hid ht
        clear ht
        by_cases hlt : k < xs.length
        · obtain ⟨ad, rfl, _, hca⟩ := HX.out.at_ (map_at hlt)
          have hsl := HS.out _ (List.getElem_mem hlt)
          have hsz : (bs xs[k]).size = xs[k].length := by simp [ByteArray.size]
          by_cases hd : 300 < xs[k].length
          · have HD : Hid (longB xs[k] = true) := by show _ = _; simp [longB, hd]
            go_wp2
            go_ret2
            exact fb_mk (HM.out.trans (if_pos (any_at hlt HD.out))) rfl (Rd.nil _ _ _) (by repeat (first | exact Below.refl _ _ | assumption | refine Below.drew ?_ | refine below_drewN ?_ _ | refine Below.setCell ?_ (by first | exact Nat.le_refl _ | exact Below.size (by assumption) | (simp; done) | (simp; omega) | omega) _ | refine Below.alloc ?_ (by first | exact Nat.le_refl _ | exact Below.size (by assumption) | (simp; done) | (simp; omega) | omega) _))
          · have HD : Hid (longB xs[k] = false) := by show _ = _; simp [longB, hd]
            go_wp2
            go_round
            case rel => exact ⟨k + 1, by omega, by go_num, any_take_false hlt HT.out HD.out⟩
            case measure => simp [intOf]; omega
        · have HA := Lib.hid (any_all (by omega) HT.out)
          go_wp2_with fail
          refine (l01Fields_any A c xs _ HX.out (by omega) HS.out).mono ?_
          rintro e w1 ⟨v, rfl, ho, hb⟩
          obtain ⟨A2, c2, rfl, _⟩ := own_form ho
          have HO := Lib.hid (Rd.own ho)
          clear ho
          go_wp2_with fail
          go_ret2
          exact fb_mk (HM.out.trans (if_neg (by rw [HA.out]; decide))) rfl HO.out hb
end Go.Proofs.Ytlfnpnkpjdmonaa
