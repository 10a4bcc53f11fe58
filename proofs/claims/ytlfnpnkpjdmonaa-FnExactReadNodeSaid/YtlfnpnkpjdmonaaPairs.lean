import Derived.Test.YtlfnpnkpjdmonaaTexts
import Derived.Laws.StructEq
import Derived.Laws.IdiomCopy
set_option linter.unusedVariables false
set_option linter.unusedSimpArgs false
namespace Go.Proofs.Ytlfnpnkpjdmonaa
open Go.RowKit

/-! ### pairs -/
abbrev Pr := ByteArray × ByteArray
def encP (p : Pr) : List Value := [.string p.1, .string p.2]
@[reducible] def prV (p : Pr) : Value := .agg #[.string p.1, .string p.2]
theorem encP_len (p : Pr) : (encP p).length = 2 := rfl
theorem pr_at {l : List Pr} {i : Nat} (h : i < l.length) : (flat encP l)[i * 2]? = some (.string l[i].1) ∧ (flat encP l)[i * 2 + 1]? = some (.string l[i].2) :=
  ⟨by simpa using flat_get (j := 0) encP_len (List.getElem?_eq_getElem h) rfl, flat_get (j := 1) encP_len (List.getElem?_eq_getElem h) rfl⟩
theorem add_next (a : Addr) (i : Nat) : a.add (i + 1) = ⟨(a.add i).block, (a.add i).off + 1, none⟩ := by
  unfold Addr.add
  by_cases hi : i = 0 <;> simp [hi]
  all_goals first | rfl | omega
theorem Rd.pr {w : World} {B : Nat} {A : Option Addr} {l : List Pr} (h : Rd w B A (flat encP l)) {i : Nat} (hi : i < l.length) : ∃ ad, A = some ad ∧ ad.block < B ∧ w.cell? (ad.add (i * 2)) = some (.string l[i].1) ∧ w.cell? ⟨(ad.add (i * 2)).block, (ad.add (i * 2)).off + 1, none⟩ = some (.string l[i].2) := by
  obtain ⟨ad, e, hb, hc⟩ := h (by
    intro h0
    have := flat_length encP_len l
    rw [h0] at this
    simp at this
    omega)
  exact ⟨ad, e, hb, hc _ _ (pr_at hi).1, add_next ad (i * 2) ▸ hc _ _ (pr_at hi).2⟩
def eqP (p q : Pr) : Bool := decide (p = q)
theorem eqP_iff {p q : Pr} {r : Bool} (h : ((p.1.toList == q.1.toList) && (p.2.toList == q.2.toList)) = r) : decide (p = q) = r := by
  subst h
  rw [Bool.eq_iff_iff]
  simp only [decide_eq_true_eq, Bool.and_eq_true]
  constructor
  · rintro rfl; simp
  · rintro ⟨h1, h2⟩
    exact Prod.ext (bytes_of_eq h1) (bytes_of_eq h2)

theorem eqPair_any (p q : Pr) (w : World) : Calls Try.prog 180 #[prV p, prV q] w fun e w' => e = .returned (.bool (decide (p = q))) ∧ Below w.heap.size w w' := by
  generalize hr : decide (p = q) = r
  have HR := Lib.hid hr
  clear hr
  cases h1 : (p.1.toList == q.1.toList) <;> cases h2 : (p.2.toList == q.2.toList)
  all_goals
    have HE := Lib.hid (eqP_iff (p := p) (q := q) (by rw [h1, h2]))
    go_enter Try.func180, Try.ntmps180
    go_wp2
    go_ret
    exact ⟨by rw [← HR.out, HE.out]; rfl, by repeat (first | exact Below.refl _ _ | assumption | refine Below.drew ?_ | refine below_drewN ?_ _ | refine Below.setCell ?_ (by first | exact Nat.le_refl _ | exact Below.size (by assumption) | (simp; done) | (simp; omega) | omega) _ | refine Below.alloc ?_ (by first | exact Nat.le_refl _ | exact Below.size (by assumption) | (simp; done) | (simp; omega) | omega) _)⟩
/-- A pair's two cells, read as one value. -/
theorem prNe {p q : Pr} {r : Bool} (h : decide (p = q) = r) : (!((p.1.toList == q.1.toList) && (p.2.toList == q.2.toList))) = !r := by
  rw [← h, eqP_iff rfl]

theorem take_eq_succ' {xs ys : List Pr} {k : Nat} (h1 : k < xs.length) (h2 : k < ys.length) (h : xs.take k = ys.take k) (he : xs[k] = ys[k]) : xs.take (k + 1) = ys.take (k + 1) := take_eq_succ h1 h2 h he
set_option maxRecDepth 100000 in
theorem eqPairS_eq (A B : Option Addr) (c d : Nat) (xs : List Pr) (w : World) (hx : Rd w w.heap.size A (flat encP xs)) (hy : Rd w w.heap.size B (flat encP xs)) (hl : xs.length ≤ maxLen) :
    Calls Try.prog 99 #[.slice A xs.length c, .slice B xs.length d] w fun e w' => e = .returned (.bool true) ∧ Below w.heap.size w w' := by
  unfold maxLen at hl
  have HX := Lib.hid hx
  have HY := Lib.hid hy
  clear hx hy
  go_enter Try.func99, Try.ntmps99
  go_wp2
  go_loopw [5] (fun i wr => ∃ k : Nat, k ≤ xs.length ∧ i = .int .i64 k ∧ Below w.heap.size w wr) (fun i _ => xs.length - (intOf i).toNat)
  case atStart => exact ⟨0, Nat.zero_le _, rfl, Below.refl _ _⟩
  case round =>
    obtain ⟨k, hk, rfl, hb⟩ := hrel
    by_cases hlt : k < xs.length
    · obtain ⟨ad, rfl, hbl, hca, hcb⟩ := (HX.out.below hb).pr hlt
      obtain ⟨bd, rfl, hbl', hda, hdb⟩ := (HY.out.below hb).pr hlt
      have hcl := hb.size
      go_wp2
      go_region_held3 (fun w' => w'.cell? (ad.add (k * 2)) = some (.string xs[k].1) ∧ w'.cell? ⟨(ad.add (k * 2)).block, (ad.add (k * 2)).off + 1, none⟩ = some (.string xs[k].2) ∧ w'.cell? (bd.add (k * 2)) = some (.string xs[k].1) ∧ w'.cell? ⟨(bd.add (k * 2)).block, (bd.add (k * 2)).off + 1, none⟩ = some (.string xs[k].2))
        (refine ⟨?_, ?_, ?_, ?_⟩ <;> first | assumption | (exact (hb2.cell (by simp only [add_block, World.size_drew]; omega)).trans (by assumption)))
        (first | (go_at_call 180; refine (eqPair_any _ _ _).mono ?_; rw [decide_eq_true rfl]; rintro e w2 ⟨rfl, hb2⟩))
      have hb3 := below_after hb.drew hb2
      clear hb2
      go_wp2_with fail
      go_roundw
      case rel => exact ⟨k + 1, by omega, by go_num, hb3⟩
      case measure => simp [intOf]; omega
    · go_wp2
      go_ret
      exact ⟨rfl, hb⟩

theorem prGuard : Try.prog.eqGuardType Try.prog.depth 82 = false := by kernel_rfl
theorem prHeld : Try.prog.stoodInHeld 82 = false := by kernel_rfl
theorem prEqGuard (op : BinOp) (x y : Operand) (p q : Pr) (w : World) : (eqGuard op 82 x y (prV p) (prV q)).run Try.prog w = .ok () w := run_eqGuard_agg w op _ x y _ _ prGuard
theorem prFields : Try.prog.underlying 82 = some (.struct (Try.prog.fieldsOf 82)) := by kernel_rfl
theorem prNeq (p q : Pr) (w : World) : (binOp .neq 82 (prV p) (prV q)).run Try.prog w = .ok (.bool (!((p.1.toList == q.1.toList) && (p.2.toList == q.2.toList)))) w := by
  rw [run_neq_struct, run_equalIn_struct _ _ _ _ _ prFields prHeld]
  cases h1 : (p.1.toList == q.1.toList) <;> cases h2 : (p.2.toList == q.2.toList) <;> simp [go_sem, Try.underlying82, Try.underlying9, h1, h2]
/-- Two lists of pairs: the reference's own comparison. -/
theorem ne_of_at' {xs ys : List Pr} {k : Nat} (h1 : k < xs.length) (h2 : k < ys.length) (he : decide (xs[k] = ys[k]) = false) : decide (xs = ys) = false := by
  apply decide_eq_false
  intro h
  subst h
  simp at he
set_option maxRecDepth 100000 in
theorem l11Same_any (A B : Option Addr) (c d : Nat) (xs ys : List Pr) (w : World) (hx : Rd w w.heap.size A (flat encP xs)) (hy : Rd w w.heap.size B (flat encP ys)) (hl : xs.length ≤ maxLen) (hl' : ys.length ≤ maxLen) :
    Calls Try.prog 116 #[.slice A xs.length c, .slice B ys.length d] w fun e w' => e = .returned (.bool (decide (xs = ys))) ∧ ∃ n, w' = w.drewN n := by
  unfold maxLen at hl hl'
  generalize hr : decide (xs = ys) = r
  have HR := Lib.hid hr
  clear hr
  by_cases hne : xs.length = ys.length
  · have HX := Lib.hid hx
    have HY := Lib.hid hy
    clear hx hy
    have hb0 : ((xs.length : Int) != (ys.length : Int)) = false := by rw [hne]; simp
    have hle : xs.length ≤ ys.length := by omega
    have hge : ys.length ≤ xs.length := by omega
    clear hne
    go_enter Try.func116, Try.ntmps116
    go_wp2
    go_loopw [5] (fun i wr => ∃ k q : Nat, k ≤ xs.length ∧ i = .int .i64 k ∧ xs.take k = ys.take k ∧ wr = w.drewN q) (fun i _ => xs.length - (intOf i).toNat)
    case atStart => exact ⟨0, 0, Nat.zero_le _, rfl, rfl, rfl⟩
    case round =>
      obtain ⟨k, q, hk, rfl, ht, rfl⟩ := hrel
      have HT := Lib.hid ht
      clear ht
      by_cases hlt : k < xs.length
      · have hlt' : k < ys.length := by omega
        obtain ⟨ad, rfl, _, hca, hcb⟩ := HX.out.pr hlt
        obtain ⟨bd, rfl, _, hda, hdb⟩ := HY.out.pr hlt'
        have hg : ∀ (op : BinOp) (x y : Operand) (w : World), (eqGuard op 82 x y (.agg #[.string xs[k].1, .string xs[k].2]) (.agg #[.string ys[k].1, .string ys[k].2])).run Try.prog w = .ok () w := fun op x y w => prEqGuard op x y xs[k] ys[k] w
        cases he : decide (xs[k] = ys[k]) with
        | true =>
          have hq : ∀ w : World, (binOp .neq 82 (.agg #[.string xs[k].1, .string xs[k].2]) (.agg #[.string ys[k].1, .string ys[k].2])).run Try.prog w = .ok (.bool false) w := fun w => by rw [prNeq, prNe he]; rfl
          have HE := Lib.hid he
          clear he
          go_wp2
          go_quiet (fail)
          go_wp2
          go_roundw
          case rel => exact ⟨k + 1, _, by omega, by go_num, take_eq_succ hlt hlt' HT.out (of_decide_eq_true HE.out), rfl⟩
          case measure => simp [intOf]; omega
        | false =>
          have hq : ∀ w : World, (binOp .neq 82 (.agg #[.string xs[k].1, .string xs[k].2]) (.agg #[.string ys[k].1, .string ys[k].2])).run Try.prog w = .ok (.bool true) w := fun w => by rw [prNeq, prNe he]; rfl
          have HE := Lib.hid he
          clear he
          go_wp2
          go_quiet (fail)
          go_wp2
          go_ret
          exact ⟨by rw [show r = false from HR.out.symm.trans (ne_of_at' hlt hlt' HE.out)]; rfl, _, (by rw [World.drewN_drewN])⟩
      · go_wp2
        go_ret
        exact ⟨(by rw [show r = true from HR.out.symm.trans (decide_eq_true (by have := HT.out; rwa [List.take_of_length_le (by omega), List.take_of_length_le (by omega)] at this))]; rfl), _, rfl⟩
  · have hf : r = false := by
      rw [← HR.out]
      simp
      intro h
      exact hne (by rw [h])
    subst hf
    clear hx hy HR
    have hb0 : ((xs.length : Int) != (ys.length : Int)) = true := by simp; omega
    clear hne
    go_enter Try.func116, Try.ntmps116
    go_wp2
    go_ret
    exact ⟨rfl, 0, rfl⟩

set_option maxRecDepth 100000 in
/-- The library's Equal at lists of pairs. -/
theorem equalP_any (A B : Option Addr) (c d : Nat) (xs ys : List Pr) (w : World) (hx : Rd w w.heap.size A (flat encP xs)) (hy : Rd w w.heap.size B (flat encP ys)) (hl : xs.length ≤ maxLen) (hl' : ys.length ≤ maxLen) :
    Calls Try.prog 119 #[.slice A xs.length c, .slice B ys.length d] w fun e w' => e = .returned (.bool (decide (xs = ys))) ∧ ∃ n, w' = w.drewN n := by
  unfold maxLen at hl hl'
  generalize hr : decide (xs = ys) = r
  have HR := Lib.hid hr
  clear hr
  by_cases hne : xs.length = ys.length
  · have HX := Lib.hid hx
    have HY := Lib.hid hy
    clear hx hy
    have hb0 : ((xs.length : Int) != (ys.length : Int)) = false := by rw [hne]; simp
    have hle : xs.length ≤ ys.length := by omega
    have hge : ys.length ≤ xs.length := by omega
    clear hne
    go_enter Try.func119, Try.ntmps119
    go_wp2
    go_loopw [13] (fun i wr => ∃ k q : Nat, k ≤ xs.length ∧ i = .int .i64 k ∧ xs.take k = ys.take k ∧ wr = w.drewN q) (fun i _ => xs.length - (intOf i).toNat)
    case atStart => exact ⟨0, 0, Nat.zero_le _, rfl, rfl, rfl⟩
    case round =>
      obtain ⟨k, q, hk, rfl, ht, rfl⟩ := hrel
      have HT := Lib.hid ht
      clear ht
      by_cases hlt : k < xs.length
      · have hlt' : k < ys.length := by omega
        obtain ⟨ad, rfl, _, hca, hcb⟩ := HX.out.pr hlt
        obtain ⟨bd, rfl, _, hda, hdb⟩ := HY.out.pr hlt'
        have hg : ∀ (op : BinOp) (x y : Operand) (w : World), (eqGuard op 82 x y (.agg #[.string xs[k].1, .string xs[k].2]) (.agg #[.string ys[k].1, .string ys[k].2])).run Try.prog w = .ok () w := fun op x y w => prEqGuard op x y xs[k] ys[k] w
        cases he : decide (xs[k] = ys[k]) with
        | true =>
          have hq : ∀ w : World, (binOp .neq 82 (.agg #[.string xs[k].1, .string xs[k].2]) (.agg #[.string ys[k].1, .string ys[k].2])).run Try.prog w = .ok (.bool false) w := fun w => by rw [prNeq, prNe he]; rfl
          have HE := Lib.hid he
          clear he
          go_wp2
          go_quiet (fail)
          go_wp2
          go_roundw
          case rel => exact ⟨k + 1, _, by omega, by go_num, take_eq_succ hlt hlt' HT.out (of_decide_eq_true HE.out), rfl⟩
          case measure => simp [intOf]; omega
        | false =>
          have hq : ∀ w : World, (binOp .neq 82 (.agg #[.string xs[k].1, .string xs[k].2]) (.agg #[.string ys[k].1, .string ys[k].2])).run Try.prog w = .ok (.bool true) w := fun w => by rw [prNeq, prNe he]; rfl
          have HE := Lib.hid he
          clear he
          go_wp2
          go_quiet (fail)
          go_wp2
          go_ret
          exact ⟨by rw [show r = false from HR.out.symm.trans (ne_of_at' hlt hlt' HE.out)]; rfl, _, (by rw [World.drewN_drewN])⟩
      · go_wp2
        go_ret
        exact ⟨(by rw [show r = true from HR.out.symm.trans (decide_eq_true (by have := HT.out; rwa [List.take_of_length_le (by omega), List.take_of_length_le (by omega)] at this))]; rfl), _, rfl⟩
  · have hf : r = false := by
      rw [← HR.out]
      simp
      intro h
      exact hne (by rw [h])
    subst hf
    clear hx hy HR
    have hb0 : ((xs.length : Int) != (ys.length : Int)) = true := by simp; omega
    clear hne
    go_enter Try.func119, Try.ntmps119
    go_wp2
    go_ret
    exact ⟨rfl, 0, rfl⟩
end Go.Proofs.Ytlfnpnkpjdmonaa
namespace Go.Proofs.Ytlfnpnkpjdmonaa
open Go.RowKit

theorem szPair_any (p : Pr) (left : Int) (w : World) (h0 : 0 ≤ left) (h1 : left ≤ 1048576) (hs1 : p.1.size ≤ maxLen) (hs2 : p.2.size ≤ maxLen) :
    Calls Try.prog 189 #[prV p, .int .i64 left] w fun e w' => ∃ n : Int, e = .returned (.int .i64 n) ∧ n ≤ left ∧ (0 ≤ n → p.1.size + p.2.size + n ≤ left) ∧ Below w.heap.size w w' := by
  unfold maxLen at hs1 hs2
  by_cases ha : left - p.1.size < 0
  · go_enter Try.func189, Try.ntmps189
    go_wp2
    go_ret
    exact ⟨-1, rfl, by omega, fun h => by omega, by repeat (first | exact Below.refl _ _ | assumption | refine Below.drew ?_ | refine below_drewN ?_ _ | refine Below.setCell ?_ (by first | exact Nat.le_refl _ | exact Below.size (by assumption) | (simp; done) | (simp; omega) | omega) _ | refine Below.alloc ?_ (by first | exact Nat.le_refl _ | exact Below.size (by assumption) | (simp; done) | (simp; omega) | omega) _)⟩
  · by_cases hb : left - p.1.size - p.2.size < 0
    · go_enter Try.func189, Try.ntmps189
      go_wp2
      go_ret
      exact ⟨-1, rfl, by omega, fun h => by omega, by repeat (first | exact Below.refl _ _ | assumption | refine Below.drew ?_ | refine below_drewN ?_ _ | refine Below.setCell ?_ (by first | exact Nat.le_refl _ | exact Below.size (by assumption) | (simp; done) | (simp; omega) | omega) _ | refine Below.alloc ?_ (by first | exact Nat.le_refl _ | exact Below.size (by assumption) | (simp; done) | (simp; omega) | omega) _)⟩
    · go_enter Try.func189, Try.ntmps189
      go_wp2
      go_ret
      exact ⟨left - p.1.size - p.2.size, rfl, by omega, fun h => by omega, by repeat (first | exact Below.refl _ _ | assumption | refine Below.drew ?_ | refine below_drewN ?_ _ | refine Below.setCell ?_ (by first | exact Nat.le_refl _ | exact Below.size (by assumption) | (simp; done) | (simp; omega) | omega) _ | refine Below.alloc ?_ (by first | exact Nat.le_refl _ | exact Below.size (by assumption) | (simp; done) | (simp; omega) | omega) _)⟩

theorem szPairS_any (A : Option Addr) (c : Nat) (xs : List Pr) (left : Int) (w : World) (hx : Rd w w.heap.size A (flat encP xs)) (hl : xs.length ≤ maxLen) (h0 : 0 ≤ left) (h1 : left ≤ 1048576) (hs : ∀ p ∈ xs, p.1.size ≤ maxLen ∧ p.2.size ≤ maxLen) :
    Calls Try.prog 114 #[.slice A xs.length c, .int .i64 left] w fun e w' => ∃ n : Int, e = .returned (.int .i64 n) ∧ n ≤ left ∧ (0 ≤ n → xs.length + n ≤ left ∧ ∀ p ∈ xs, p.1.size + p.2.size + n ≤ left) ∧ Below w.heap.size w w' := by
  unfold maxLen at hl
  have HX := Lib.hid hx
  have HS := Lib.hid hs
  clear hx hs
  by_cases hneg : left < xs.length
  · go_enter Try.func114, Try.ntmps114
    go_wp2
    go_ret
    exact ⟨-1, rfl, by omega, fun h => by omega, Below.refl _ _⟩
  · go_enter Try.func114, Try.ntmps114
    go_wp2
    go_loopw [1, 5] (fun l i wr => ∃ (k : Nat) (m : Int), k ≤ xs.length ∧ i = .int .i64 k ∧ l = .int .i64 m ∧ 0 ≤ m ∧ m + xs.length ≤ left ∧ (∀ p ∈ xs.take k, p.1.size + p.2.size + m ≤ left) ∧ Below w.heap.size w wr) (fun _ i _ => xs.length - (intOf i).toNat)
    case atStart => exact ⟨0, left - xs.length, Nat.zero_le _, rfl, rfl, by omega, by omega, by simp, Below.refl _ _⟩
    case round =>
      obtain ⟨k, m, hk, rfl, rfl, hm, hml, hall, hb⟩ := hrel
      have HA := Lib.hid hall
      clear hall
      by_cases hlt : k < xs.length
      · obtain ⟨ad, rfl, _, hca, hcb⟩ := (HX.out.below hb).pr hlt
        obtain ⟨hz1, hz2⟩ := HS.out xs[k] (List.getElem_mem _)
        go_wp2_with fail
        refine (szPair_any _ _ _ hm (by omega) hz1 hz2).mono ?_
        rintro e w1 ⟨n, rfl, hn1, hn2, hb1⟩
        have hb2 := below_after hb hb1
        clear hb1
        by_cases hn : n < 0
        · clear hz1 hz2
          go_wp2
          go_ret
          exact ⟨-1, rfl, by omega, fun h => by omega, hb2⟩
        · have hn3 := hn2 (by omega)
          clear hz1 hz2 hn2
          go_wp2
          go_roundw
          case rel =>
            refine ⟨k + 1, n, by omega, by go_num, rfl, by omega, by omega, fun p hp => ?_, hb2⟩
            rw [List.take_succ_eq_append_getElem hlt, List.mem_append] at hp
            rcases hp with hp | hp
            · have := HA.out p hp
              omega
            · simp at hp
              subst hp
              omega
          case measure => simp [intOf]; omega
      · go_wp2
        go_ret
        exact ⟨m, rfl, by omega, fun _ => ⟨by omega, fun p hp => HA.out p (by rwa [List.take_of_length_le (by omega)])⟩, hb⟩

theorem toPair_any (p : Pr) (w : World) : Calls Try.prog 191 #[prV p] w fun e w' => e = .returned (prV p) ∧ Below w.heap.size w w' := by
  go_enter Try.func191, Try.ntmps191
  go_wp2
  refine bodyPost_ret (v := prV p) (by simp [results, Try.results191, go_sem]) rfl ⟨rfl, ?_⟩
  repeat (first | exact Below.refl _ _ | assumption | refine Below.drew ?_ | refine below_drewN ?_ _ | refine Below.setCell ?_ (by first | exact Nat.le_refl _ | exact Below.size (by assumption) | (simp; done) | (simp; omega) | omega) _ | refine Below.alloc ?_ (by first | exact Nat.le_refl _ | exact Below.size (by assumption) | (simp; done) | (simp; omega) | omega) _)
end Go.Proofs.Ytlfnpnkpjdmonaa
namespace Go.Proofs.Ytlfnpnkpjdmonaa
open Go.RowKit

/-! ### rows of elements of several cells, written element by element -/
/-- the cells vs laid from o on -/
def putAt (L : List Value) (o : Nat) (vs : List Value) : List Value := L.take o ++ (vs ++ L.drop (o + vs.length))
theorem putAt_nil (L : List Value) (o : Nat) : putAt L o [] = L := by simp [putAt]
theorem putAt_length (L : List Value) (o : Nat) (vs : List Value) (h : o + vs.length ≤ L.length) : (putAt L o vs).length = L.length := by
  simp [putAt]; omega
theorem putAt_cons (L : List Value) (o : Nat) (v : Value) (vs : List Value) (h : o + vs.length + 1 ≤ L.length) : putAt (L.set o v) (o + 1) vs = putAt L o (v :: vs) := by
  unfold putAt
  rw [List.length_cons, show o + (vs.length + 1) = o + 1 + vs.length from by omega, List.drop_set_of_lt (by omega), List.take_set, List.take_succ_eq_append_getElem (by omega : o < L.length)]
  rw [List.set_append, if_neg (by simp; omega)]
  simp [show min o L.length = o from by omega]
theorem own_setCells {w : World} {base : Nat} {e : TypeId} {size g n cap : Nat} : ∀ (vs : List Value) (o : Nat) (xs : List Value) (w : World), w.ownsRow base e size (.slice (some ⟨g, 0, none⟩) n cap) n xs → o + vs.length ≤ xs.length →
    (w.setCells g o vs).ownsRow base e size (.slice (some ⟨g, 0, none⟩) n cap) n (putAt xs o vs) ∧ w.grownBy (w.setCells g o vs) (some g)
  | [], o, xs, w, h, _ => by rw [putAt_nil]; exact ⟨h, World.grownBy.refl _ _⟩
  | v :: vs, o, xs, w, h, hl => by
    rw [List.length_cons] at hl
    obtain ⟨h1, h2⟩ := h.stored o v
    obtain ⟨h3, h4⟩ := own_setCells (w := w) vs (o + 1) _ _ h1 (by simp; omega)
    rw [putAt_cons _ _ _ _ (by omega)] at h3
    exact ⟨h3, grown_after h2 h4⟩
theorem below_setCells {B g : Nat} (hg : B ≤ g) {a : World} : ∀ (vs : List Value) (o : Nat) (w : World), Below B a w → Below B a (w.setCells g o vs)
  | [], _, _, h => h
  | v :: vs, o, _, h => below_setCells hg vs (o + 1) _ (h.setCell (p := ⟨g, o, none⟩) hg v)

section
variable {α : Type} {enc : α → List Value} {s : Nat}
/-- the element k of a row whose first k elements are done -/
theorem put_elem (hk : ∀ x, (enc x).length = s) (l : List α) (x : α) (Z : List Value) (hZ : s ≤ Z.length) : putAt (flat enc l ++ Z) (l.length * s) (enc x) = flat enc (l ++ [x]) ++ Z.drop s := by
  have e : (flat enc l).length = l.length * s := flat_length hk l
  unfold putAt
  rw [List.take_append_of_le_length (by omega), List.take_of_length_le (by omega), hk, List.drop_append, e, List.drop_of_length_le (by omega), List.nil_append, show l.length * s + s - l.length * s = s from by omega, flat_append, List.append_assoc]
  congr 1
  rw [flat_cons, flat_nil, List.append_nil]
end

theorem ownLen {w : World} {base : Nat} {e : TypeId} {size : Nat} {v : Value} {n : Nat} {xs : List Value} (h : w.ownsRow base e size v n xs) : ∃ A c, v = .slice A n c := by
  obtain ⟨A, c, h1, _⟩ := own_form h
  exact ⟨A, c, h1⟩
theorem ownSet {w : World} {base : Nat} {e : TypeId} {size n : Nat} {v : Value} {xs : List Value} (h : w.ownsRow base e size v n xs) {k : Nat} (hk : k < base) (i : Nat) (u : Value) : (w.setCell ⟨k, i, none⟩ u).ownsRow base e size v n xs :=
  ownsRow_setCell_below h hk u
theorem infoPair : (Try.prog.info? 82).map (fun i => (i.zero, i.size, i.bytes)) = some (some (.agg #[.string ⟨#[]⟩, .string ⟨#[]⟩]), 2, 32) := by kernel_rfl

set_option maxRecDepth 100000 in
theorem toPairS_any (A : Option Addr) (c : Nat) (xs : List Pr) (w : World) (hx : Rd w w.heap.size A (flat encP xs)) (hl : xs.length ≤ 1048576) :
    Calls Try.prog 117 #[.slice A xs.length c] w fun e w' => ∃ v, e = .returned v ∧ w'.ownsRow w.heap.size 82 2 v xs.length (flat encP xs) ∧ Below w.heap.size w w' := by
  obtain ⟨i0, hi, hz0, hz1, hz2⟩ := info_parts infoPair
  have HX := Lib.hid hx
  clear hx
  have hz2' : i0.bytes * xs.length ≤ 281474976710656 := by rw [hz2]; omega
  have HI := Lib.hid (And.intro hi (And.intro hz0 (And.intro hz1 hz2')))
  clear hi hz0 hz1 hz2 hz2'
  go_enter Try.func117, Try.ntmps117
  go_wp2_with (at_make; refine wpList_make_full _ rfl _ _ _ rfl w.heap.size 82 i0 (.agg #[.string ⟨#[]⟩, .string ⟨#[]⟩]) 2 Try.underlying59 HI.out.1 HI.out.2.1 HI.out.2.2.1 _ _ _ _ xs.length rfl rfl rfl rfl HI.out.2.2.2 (by simp only [maxLen]; omega) (Nat.le_refl _) ?_; intro w1 hown1 hg1)
  have hZ : (madeCells (Value.agg #[.string ⟨#[]⟩, .string ⟨#[]⟩]).cells (xs.length * 2)).toList.length = xs.length * 2 := by simp [madeCells]
  generalize hgz : (madeCells (Value.agg #[.string ⟨#[]⟩, .string ⟨#[]⟩]).cells (xs.length * 2)).toList = Z at *
  have hown2 : w1.ownsRow w.heap.size 82 2 (.slice (some ⟨w.heap.size, 0, none⟩) xs.length xs.length) xs.length (flat encP (xs.take 0) ++ Z) := hown1
  have HO := Lib.hid hown2
  have HZ := Lib.hid hZ
  have hb1 : Below w.heap.size w w1 := below_grown none hg1 (Nat.le_refl _) (by simp)
  have hq1 : w.heap.size < w1.heap.size := (hown2.lt _ rfl).2
  clear hown1 hown2 hg1 hgz hZ
  go_wp2
  go_loopw [4] (fun i wr => ∃ (k : Nat) (Z : List Value), k ≤ xs.length ∧ i = .int .i64 k ∧ Z.length = (xs.length - k) * 2 ∧ wr.ownsRow w.heap.size 82 2 (.slice (some ⟨w.heap.size, 0, none⟩) xs.length xs.length) xs.length (flat encP (xs.take k) ++ Z) ∧ Below w.heap.size w wr) (fun i _ => xs.length - (intOf i).toNat)
  case atStart => exact ⟨0, Z, Nat.zero_le _, rfl, HZ.out, HO.out, hb1⟩
  case round =>
    obtain ⟨k, Z, hk, rfl, hZ, ho, hb⟩ := hrel
    have HK := Lib.hid ho
    have HZ2 := Lib.hid hZ
    clear ho HO HZ hZ
    by_cases hlt : k < xs.length
    · obtain ⟨ad, rfl, hbl, hca, hcb⟩ := (HX.out.below hb).pr hlt
      go_wp2_with fail
      refine (toPair_any xs[k] _).mono ?_
      rintro e w2 ⟨rfl, hb2⟩
      have ho2 := own_below HK.out hb2
      have hb3 := below_after hb hb2
      have hfl : (flat encP (List.take k xs) ++ Z).length = xs.length * 2 := ho2.1
      have hce0 : ∃ u, w2.cell? ⟨w.heap.size, k * 2, none⟩ = some u := by
        rw [ho2.cellAt (k * 2) (by omega)]
        exact ⟨_, List.getElem?_eq_getElem (by omega)⟩
      have hce1 : ∃ u, w2.cell? ⟨w.heap.size, k * 2 + 1, none⟩ = some u := by
        rw [ho2.cellAt (k * 2 + 1) (by omega)]
        exact ⟨_, List.getElem?_eq_getElem (by omega)⟩
      obtain ⟨u0, hcu0⟩ := hce0
      obtain ⟨u1, hcu1⟩ := hce1
      have hfr0 := ho2.frozenAt (k * 2)
      have hfr1 := ho2.frozenAt (k * 2 + 1)
      have HO2 := Lib.hid ho2
      have HF := Lib.hid hfl
      clear ho2 hfl hca hcb hb2 HK
      go_wp2
      go_roundw
      case rel =>
        have hfit := HF.out
        have hZl := HZ2.out
        refine ⟨k + 1, Z.drop 2, by omega, by go_num, by simp; omega, ?_, below_setCells (Nat.le_refl _) [.string xs[k].1, .string xs[k].2] (k * 2) _ hb3⟩
        have h := (own_setCells (w := w2) [.string xs[k].1, .string xs[k].2] (k * 2) _ _ HO2.out (by simp only [List.length_cons, List.length_nil]; omega)).1
        have e := put_elem encP_len (xs.take k) xs[k] Z (by omega)
        rw [List.length_take, show min k xs.length = k from by omega, ← List.take_succ_eq_append_getElem hlt] at e
        rw [← e]
        exact h
      case measure => simp [intOf]; omega
    · go_wp2
      go_ret
      refine ⟨_, rfl, ?_, hb⟩
      have h := HK.out
      have hZl := HZ2.out
      obtain rfl : Z = [] := List.eq_nil_of_length_eq_zero (by rw [hZl]; omega)
      rw [List.append_nil, List.take_of_length_le (by omega)] at h
      exact h
end Go.Proofs.Ytlfnpnkpjdmonaa
