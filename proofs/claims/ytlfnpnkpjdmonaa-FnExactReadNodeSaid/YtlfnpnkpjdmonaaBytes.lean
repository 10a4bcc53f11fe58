import Derived.Test.YtlfnpnkpjdmonaaReadFields
set_option linter.unusedVariables false
set_option linter.unusedSimpArgs false
namespace Go.Proofs.Ytlfnpnkpjdmonaa
open Go.RowKit

/-! ### lists of bytes -/
@[reducible] def bv (c : UInt8) : Value := .int .u8 (c.toNat : Int)
theorem infoByte : (Try.prog.info? 5).map (fun i => (i.zero, i.size, i.bytes)) = some (some (.int .u8 0), 1, 1) := by kernel_rfl

set_option maxRecDepth 100000 in
theorem toByteS_any (A : Option Addr) (c : Nat) (xs : List UInt8) (w : World) (hx : Rd w w.heap.size A (xs.map bv)) (hl : xs.length ≤ 17592186044416) :
    Calls Try.prog 31 #[.slice A xs.length c] w fun e w' => ∃ v, e = .returned v ∧ w'.ownsRow w.heap.size 5 1 v xs.length (xs.map bv) ∧ Below w.heap.size w w' := by
  obtain ⟨i0, hi, hz0, hz1, hz2⟩ := info_parts infoByte
  have HX := Lib.hid hx
  clear hx
  have hz2' : i0.bytes * xs.length ≤ 281474976710656 := by rw [hz2]; omega
  have HI := Lib.hid (And.intro hi (And.intro hz0 (And.intro hz1 hz2')))
  clear hi hz0 hz1 hz2 hz2'
  go_enter Try.func31, Try.ntmps31
  go_wp2_with (at_make; refine wpList_make_full _ rfl _ _ _ rfl w.heap.size 5 i0 (.int .u8 0) 1 Try.underlying39 HI.out.1 HI.out.2.1 HI.out.2.2.1 _ _ _ _ xs.length rfl rfl rfl rfl HI.out.2.2.2 (by simp only [maxLen]; omega) (Nat.le_refl _) ?_; intro w1 hown1 hg1)
  have hown2 : w1.ownsRow w.heap.size 5 1 (.slice (some ⟨w.heap.size, 0, none⟩) xs.length xs.length) xs.length ((xs.take 0).map bv ++ List.replicate (xs.length - 0) (.int .u8 0)) := by
    rw [show (madeCells (Value.int .u8 0).cells (xs.length * 1)).toList = List.replicate xs.length (.int .u8 0) from by rw [Nat.mul_one]; exact toList_madeCells_one _ _] at hown1
    simpa using hown1
  have HO := Lib.hid hown2
  have hb1 : Below w.heap.size w w1 := below_grown none hg1 (Nat.le_refl _) (by simp)
  clear hown1 hown2 hg1
  go_wp2
  go_loopw [4] (fun i wr => ∃ k : Nat, k ≤ xs.length ∧ i = .int .i64 k ∧ wr.ownsRow w.heap.size 5 1 (.slice (some ⟨w.heap.size, 0, none⟩) xs.length xs.length) xs.length ((xs.take k).map bv ++ List.replicate (xs.length - k) (.int .u8 0)) ∧ Below w.heap.size w wr) (fun i _ => xs.length - (intOf i).toNat)
  case atStart => exact ⟨0, Nat.zero_le _, rfl, HO.out, hb1⟩
  case round =>
    obtain ⟨k, hk, rfl, ho, hb⟩ := hrel
    have HK := Lib.hid ho
    clear ho HO
    by_cases hlt : k < xs.length
    · obtain ⟨ad, rfl, _, hca⟩ := (HX.out.below hb).at_ (map_at hlt)
      have hfr := HK.out.frozenAt k
      have hce := HK.out.cellAt k (by omega)
      have hce' : ∃ u, wr.cell? ⟨w.heap.size, k, none⟩ = some u := by
        rw [hce]
        exact ⟨_, List.getElem?_eq_getElem (by simp; omega)⟩
      obtain ⟨u, hcu⟩ := hce'
      clear hce
      go_wp2
      go_roundw
      case rel => exact ⟨k + 1, by omega, by go_num, (by have h := (HK.out.stored k (bv xs[k])).1; rwa [set_next bv _ xs k hlt] at h), hb.setCell (Nat.le_refl _) _⟩
      case measure => simp [intOf]; omega
    · go_wp2
      go_ret
      refine ⟨_, rfl, ?_, hb⟩
      have h := HK.out
      rw [List.take_of_length_le (by omega), show xs.length - k = 0 from by omega] at h
      simpa using h


set_option maxRecDepth 100000 in
theorem eqByteS_eq (A B : Option Addr) (c d : Nat) (xs : List UInt8) (w : World) (hx : Rd w w.heap.size A (xs.map bv)) (hy : Rd w w.heap.size B (xs.map bv)) (hl : xs.length ≤ maxLen) :
    Calls Try.prog 34 #[.slice A xs.length c, .slice B xs.length d] w fun e w' => e = .returned (.bool true) ∧ Below w.heap.size w w' := by
  unfold maxLen at hl
  have HX := Lib.hid hx
  have HY := Lib.hid hy
  clear hx hy
  go_enter Try.func34, Try.ntmps34
  go_wp2
  go_loopw [5] (fun i wr => ∃ k q : Nat, k ≤ xs.length ∧ i = .int .i64 k ∧ wr = w.drewN q) (fun i _ => xs.length - (intOf i).toNat)
  case atStart => exact ⟨0, 0, Nat.zero_le _, rfl, rfl⟩
  case round =>
    obtain ⟨k, q, hk, rfl, rfl⟩ := hrel
    by_cases hlt : k < xs.length
    · obtain ⟨ad, rfl, _, hca⟩ := HX.out.at_ (map_at hlt)
      obtain ⟨bd, rfl, _, hcb⟩ := HY.out.at_ (map_at hlt)
      go_wp2
      go_quiet (fail)
      go_wp2
      go_roundw
      case rel => exact ⟨k + 1, _, by omega, by go_num, rfl⟩
      case measure => simp [intOf]; omega
    · go_wp2
      go_ret
      exact ⟨rfl, (by repeat (first | exact Below.refl _ _ | assumption | refine Below.drew ?_ | refine below_drewN ?_ _ | refine Below.setCell ?_ (by first | exact Nat.le_refl _ | exact Below.size (by assumption) | (simp; done) | (simp; omega) | omega) _ | refine Below.alloc ?_ (by first | exact Nat.le_refl _ | exact Below.size (by assumption) | (simp; done) | (simp; omega) | omega) _))⟩

set_option maxRecDepth 100000 in
theorem markByteS_any (base : Nat) (v : Value) (n : Nat) (xs : List Value) (k : Int) (w : World) (hv : w.ownsRow base 5 1 v n xs) (hl : n ≤ 17592186044416) (h0 : 0 ≤ k) (h1 : k ≤ 17592186044416) :
    Calls Try.prog 35 #[v, .int .i64 k] w fun e w' => e = .returned (.int .i64 (k + n)) ∧ w.grownBy w' v.ownBlock := by
  rcases hv.2 with ⟨rfl, rfl⟩ | ⟨g, cap, cur, rfl, hbase, hg, hc⟩
  · go_enter Try.func35, Try.ntmps35
    go_wp2
    go_loopw [1, 5] (fun l i wr => i = .int .i64 0 ∧ l = .int .i64 k ∧ wr = w) (fun _ i _ => 0)
    case atStart => exact ⟨rfl, rfl, rfl⟩
    case round =>
      obtain ⟨rfl, rfl, rfl⟩ := hrel
      go_wp2
      go_ret
      exact ⟨ret_i (by omega), World.grownBy.refl _ _⟩
  · have HV := Lib.hid hv
    clear hv hc hg
    go_enter Try.func35, Try.ntmps35
    go_wp2
    go_loopw [1, 5] (fun l i wr => ∃ (j : Nat) (cs : List Value), j ≤ n ∧ i = .int .i64 j ∧ l = .int .i64 (k + j) ∧ wr.ownsRow base 5 1 (.slice (some ⟨g, 0, none⟩) n cap) n cs ∧ w.grownBy wr (some g)) (fun _ i _ => n - (intOf i).toNat)
    case atStart => exact ⟨0, xs, Nat.zero_le _, rfl, by simp, HV.out, World.grownBy.refl _ _⟩
    case round =>
      obtain ⟨j, cs, hj, rfl, rfl, ho, hgr⟩ := hrel
      have HO := Lib.hid ho
      by_cases hlt : j < n
      · have hfr := ho.frozenAt j
        have hcu : ∃ u, wr.cell? ⟨g, j, none⟩ = some u := by
          rw [ho.cellAt j (by omega)]
          exact ⟨_, List.getElem?_eq_getElem (by have := ho.1; omega)⟩
        obtain ⟨u, hcu⟩ := hcu
        clear ho
        go_wp2
        go_roundw
        case rel =>
          have hst := HO.out.stored j (.int .u8 ((k + j) % 256))
          exact ⟨j + 1, _, by omega, by go_num, by go_num, hst.1, grown_after hgr hst.2⟩
        case measure => simp [intOf]; omega
      · clear ho
        go_wp2
        go_ret
        exact ⟨ret_i (by omega), hgr⟩

theorem str_bytes (xs : List UInt8) : strOfNums (xs.map fun c => (c.toNat : Int)) = bs xs := by
  apply Go.WideShapes.bytes_inj
  rw [strOfNums_data, bs_data, List.map_map]
  conv => rhs; rw [← List.map_id xs]
  apply List.map_congr_left
  intro c _
  simp
set_option maxRecDepth 100000 in
theorem conv_str {w : World} {base : Nat} {v : Value} {xs : List UInt8} (h : w.ownsRow base 5 1 v xs.length (xs.map bv)) : (convert 39 9 v).run Try.prog w = .ok (.string (bs xs)) w := by
  rcases h.2 with ⟨rfl, hn⟩ | ⟨g, cap, cur, rfl, hb, hg, hc⟩
  · obtain rfl : xs = [] := List.eq_nil_of_length_eq_zero hn
    exact run_convert_bytes_nil w 39 5 Try.underlying39 Try.underlying5 0 0 9 Try.underlying9
  · have e := run_convert_bytes_arg (P := Try.prog) w 39 5 Try.underlying39 Try.underlying5 g 0 xs.length cap (xs.map fun c => (c.toNat : Int)) (by simp)
      (fun i hi => by
        rw [Nat.zero_add, h.cellAt i (by omega), map_at hi]
        simp [List.getD, hi]) 9 Try.underlying9
    rw [str_bytes] at e
    exact e
/-! ### ReadFields -/
def rfM (xs : List UInt8) : List (List UInt8) × Int := if 65536 < xs.length then ([], 2) else match full xs with
  | some ys => (ys, 0)
  | none => ([], 3)
def RFPost (w : World) (xs : List UInt8) (e : Ending) (w' : World) : Prop :=
  ∃ v, e = .returned (.tuple #[v, .int .i64 (rfM xs).2]) ∧ w'.ownsRow w.heap.size 9 1 v (rfM xs).1.length ((rfM xs).1.map fun x => Value.string (bs x)) ∧ (rfM xs).1.length ≤ 255 ∧ Below w.heap.size w w'
theorem rf_mk {w w' : World} {xs : List UInt8} {r : List (List UInt8) × Int} (hr : rfM xs = r) {v : Value} (ho : w'.ownsRow w.heap.size 9 1 v r.1.length (r.1.map fun x => Value.string (bs x))) (h255 : r.1.length ≤ 255) (hb : Below w.heap.size w w') :
    RFPost w xs (.returned (.tuple #[v, .int .i64 r.2])) w' := by
  subst hr
  unfold RFPost
  exact ⟨v, rfl, ho, h255, hb⟩
theorem rf_long {xs : List UInt8} (h : 65536 < xs.length) : rfM xs = ([], 2) := by rw [rfM, if_pos h]
theorem rf_ok {xs : List UInt8} {ys : List (List UInt8)} (h : ¬ 65536 < xs.length) (hf : full xs = some ys) : rfM xs = (ys, 0) := by rw [rfM, if_neg h, hf]
theorem rf_no {xs : List UInt8} (h : ¬ 65536 < xs.length) (hf : full xs = none) : rfM xs = ([], 3) := by rw [rfM, if_neg h, hf]

set_option maxRecDepth 100000 in
theorem implReadFields_any (base : Nat) (v : Value) (xs : List UInt8) (w : World) (hv : w.ownsRow base 5 1 v xs.length (xs.map bv)) (hl : xs.length ≤ 4194304) :
    Calls Try.prog 32 #[v] w (RFPost w xs) := by
  obtain ⟨A, c, rfl, hc⟩ := own_form hv
  by_cases h6 : 65536 < xs.length
  · have HR := Lib.hid (rf_long h6)
    clear hv
    go_enter Try.func32, Try.ntmps32
    go_wp2
    go_ret2
    exact rf_mk HR.out (World.ownsRow_nil _ _ _ _) (by simp) (Below.refl _ _)
  · have hcv := conv_str hv
    have H6 := Lib.hid h6
    go_enter Try.func32, Try.ntmps32
    go_wp2_with fail
    refine (justFields_any xs _ hl).mono ?_
    rintro e w1 ⟨u, out, ok, rfl, ho, h255, hok, hall, hb1⟩
    have HO := Lib.hid ho
    have HB := Lib.hid hb1
    have HALL := Lib.hid hall
    clear ho hall hcv hv hb1 h6
    cases hf : full xs with
    | none =>
      have HF := Lib.hid hf
      rw [hf] at hok
      simp only [Option.isSome_none] at hok
      subst hok
      clear hf
      go_wp2
      go_ret2
      exact rf_mk (rf_no H6.out HF.out) (World.ownsRow_nil _ _ _ _) (by simp) HB.out
    | some ys =>
      have HF := Lib.hid hf
      rw [hf] at hok
      simp only [Option.isSome_some] at hok
      subst hok
      clear hf
      obtain rfl := HALL.out ys HF.out
      go_wp2
      go_ret2
      exact rf_mk (rf_ok H6.out HF.out) HO.out h255 HB.out

set_option maxRecDepth 100000 in
theorem specReadFields_any (base : Nat) (v : Value) (xs : List UInt8) (w : World) (hv : w.ownsRow base 5 1 v xs.length (xs.map bv)) (hl : xs.length ≤ 4194304) :
    Calls Try.prog 30 #[v] w (RFPost w xs) := by
  obtain ⟨A, c, rfl, hc⟩ := own_form hv
  by_cases h6 : 65536 < xs.length
  · have HR := Lib.hid (rf_long h6)
    clear hv
    go_enter Try.func30, Try.ntmps30
    go_wp2
    go_ret2
    exact rf_mk HR.out (own_empty_at (Nat.le_refl _) (heap_alloc_new _ _)) (by simp) (by repeat (first | exact Below.refl _ _ | assumption | refine Below.drew ?_ | refine below_drewN ?_ _ | refine Below.setCell ?_ (by first | exact Nat.le_refl _ | exact Below.size (by assumption) | (simp; done) | (simp; omega) | omega) _ | refine Below.alloc ?_ (by first | exact Nat.le_refl _ | exact Below.size (by assumption) | (simp; done) | (simp; omega) | omega) _))
  · have hcv := conv_str hv
    have H6 := Lib.hid h6
    go_enter Try.func30, Try.ntmps30
    go_wp2_with fail
    refine (l01Read_any xs _ hl).mono ?_
    rintro e w1 ⟨u, out, ok, rfl, ho, h255, hok, hall, hb1⟩
    have HO := Lib.hid ho
    have HB := Lib.hid hb1
    have HALL := Lib.hid hall
    have hsz1 := hb1.size
    clear ho hall hcv hv hb1 h6
    cases hf : full xs with
    | none =>
      have HF := Lib.hid hf
      rw [hf] at hok
      simp only [Option.isSome_none] at hok
      subst hok
      clear hf
      go_wp2
      go_ret2
      exact rf_mk (rf_no H6.out HF.out) (own_empty_at hsz1 (heap_alloc_new _ _)) (by simp) (HB.out.alloc hsz1 _)
    | some ys =>
      have HF := Lib.hid hf
      rw [hf] at hok
      simp only [Option.isSome_some] at hok
      subst hok
      clear hf
      obtain rfl := HALL.out ys HF.out
      go_wp2
      go_ret2
      exact rf_mk (rf_ok H6.out HF.out) HO.out h255 HB.out
end Go.Proofs.Ytlfnpnkpjdmonaa
