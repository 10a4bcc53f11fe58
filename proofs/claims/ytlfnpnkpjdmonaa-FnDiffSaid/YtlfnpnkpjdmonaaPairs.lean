import Derived.Test.YtlfnpnkpjdmonaaTexts
import Derived.Laws.StructEq
set_option linter.unusedVariables false
set_option linter.unusedSimpArgs false
namespace Go.Proofs.Ytlfnpnkpjdmonaa
open Go.RowKit

/-! ### pairs -/
abbrev Pr := ByteArray × ByteArray
def encP (p : Pr) : List Value := [.string p.1, .string p.2]
@[reducible] def prV (p : Pr) : Value := .agg #[.string p.1, .string p.2]
theorem encP_len (p : Pr) : (encP p).length = 2 := rfl
theorem pr_at {l : List Pr} {i : Nat} (h : i < l.length) : (flat encP l)[i * 2]? = some (.string l[i].1) ∧ (flat encP l)[i * 2 + 1]? = some (.string l[i].2) :=
  ⟨by simpa using flat_get (j := 0) encP_len (List.getElem?_eq_getElem h) rfl, flat_get (j := 1) encP_len (List.getElem?_eq_getElem h) rfl⟩
theorem add_next (a : Addr) (i : Nat) : a.add (i + 1) = ⟨(a.add i).block, (a.add i).off + 1, none⟩ := by
  unfold Addr.add
  by_cases hi : i = 0 <;> simp [hi]
  all_goals first | rfl | omega
theorem Rd.pr {w : World} {B : Nat} {A : Option Addr} {l : List Pr} (h : Rd w B A (flat encP l)) {i : Nat} (hi : i < l.length) : ∃ ad, A = some ad ∧ ad.block < B ∧ w.cell? (ad.add (i * 2)) = some (.string l[i].1) ∧ w.cell? ⟨(ad.add (i * 2)).block, (ad.add (i * 2)).off + 1, none⟩ = some (.string l[i].2) := by
  obtain ⟨ad, e, hb, hc⟩ := h (by
    intro h0
    have := flat_length encP_len l
    rw [h0] at this
    simp at this
    omega)
  exact ⟨ad, e, hb, hc _ _ (pr_at hi).1, add_next ad (i * 2) ▸ hc _ _ (pr_at hi).2⟩
def eqP (p q : Pr) : Bool := decide (p = q)
theorem eqP_iff {p q : Pr} {r : Bool} (h : ((p.1.toList == q.1.toList) && (p.2.toList == q.2.toList)) = r) : decide (p = q) = r := by
  subst h
  rw [Bool.eq_iff_iff]
  simp only [decide_eq_true_eq, Bool.and_eq_true]
  constructor
  · rintro rfl; simp
  · rintro ⟨h1, h2⟩
    exact Prod.ext (bytes_of_eq h1) (bytes_of_eq h2)

theorem eqPair_any (p q : Pr) (w : World) : Calls Try.prog 180 #[prV p, prV q] w fun e w' => e = .returned (.bool (decide (p = q))) ∧ Below w.heap.size w w' := by
  generalize hr : decide (p = q) = r
  have HR := Lib.hid hr
  clear hr
  cases h1 : (p.1.toList == q.1.toList) <;> cases h2 : (p.2.toList == q.2.toList)
  all_goals
    have HE := Lib.hid (eqP_iff (p := p) (q := q) (by rw [h1, h2]))
    go_enter Try.func180, Try.ntmps180
    go_wp2
    go_ret
    exact ⟨by rw [← HR.out, HE.out]; rfl, by repeat (first | exact Below.refl _ _ | assumption | refine Below.drew ?_ | refine below_drewN ?_ _ | refine Below.setCell ?_ (by first | exact Nat.le_refl _ | exact Below.size (by assumption) | (simp; done) | (simp; omega) | omega) _ | refine Below.alloc ?_ (by first | exact Nat.le_refl _ | exact Below.size (by assumption) | (simp; done) | (simp; omega) | omega) _)⟩
/-- A pair's two cells, read as one value. -/
theorem prNe {p q : Pr} {r : Bool} (h : decide (p = q) = r) : (!((p.1.toList == q.1.toList) && (p.2.toList == q.2.toList))) = !r := by
  rw [← h, eqP_iff rfl]

theorem take_eq_succ' {xs ys : List Pr} {k : Nat} (h1 : k < xs.length) (h2 : k < ys.length) (h : xs.take k = ys.take k) (he : xs[k] = ys[k]) : xs.take (k + 1) = ys.take (k + 1) := take_eq_succ h1 h2 h he
set_option maxRecDepth 100000 in
theorem eqPairS_eq (A B : Option Addr) (c d : Nat) (xs : List Pr) (w : World) (hx : Rd w w.heap.size A (flat encP xs)) (hy : Rd w w.heap.size B (flat encP xs)) (hl : xs.length ≤ maxLen) :
    Calls Try.prog 99 #[.slice A xs.length c, .slice B xs.length d] w fun e w' => e = .returned (.bool true) ∧ Below w.heap.size w w' := by
  unfold maxLen at hl
  have HX := Lib.hid hx
  have HY := Lib.hid hy
  clear hx hy
  go_enter Try.func99, Try.ntmps99
  go_wp2
  go_loopw [5] (fun i wr => ∃ k : Nat, k ≤ xs.length ∧ i = .int .i64 k ∧ Below w.heap.size w wr) (fun i _ => xs.length - (intOf i).toNat)
  case atStart => exact ⟨0, Nat.zero_le _, rfl, Below.refl _ _⟩
  case round =>
    obtain ⟨k, hk, rfl, hb⟩ := hrel
    by_cases hlt : k < xs.length
    · obtain ⟨ad, rfl, hbl, hca, hcb⟩ := (HX.out.below hb).pr hlt
      obtain ⟨bd, rfl, hbl', hda, hdb⟩ := (HY.out.below hb).pr hlt
      have hcl := hb.size
      go_wp2
      go_region_held3 (fun w' => w'.cell? (ad.add (k * 2)) = some (.string xs[k].1) ∧ w'.cell? ⟨(ad.add (k * 2)).block, (ad.add (k * 2)).off + 1, none⟩ = some (.string xs[k].2) ∧ w'.cell? (bd.add (k * 2)) = some (.string xs[k].1) ∧ w'.cell? ⟨(bd.add (k * 2)).block, (bd.add (k * 2)).off + 1, none⟩ = some (.string xs[k].2))
        (refine ⟨?_, ?_, ?_, ?_⟩ <;> first | assumption | (exact (hb2.cell (by simp only [add_block, World.size_drew]; omega)).trans (by assumption)))
        (first | (go_at_call 180; refine (eqPair_any _ _ _).mono ?_; rw [decide_eq_true rfl]; rintro e w2 ⟨rfl, hb2⟩))
      have hb3 := below_after hb.drew hb2
      clear hb2
      go_wp2_with fail
      go_roundw
      case rel => exact ⟨k + 1, by omega, by go_num, hb3⟩
      case measure => simp [intOf]; omega
    · go_wp2
      go_ret
      exact ⟨rfl, hb⟩

theorem prGuard : Try.prog.eqGuardType Try.prog.depth 82 = false := by kernel_rfl
theorem prHeld : Try.prog.stoodInHeld 82 = false := by kernel_rfl
theorem prEqGuard (op : BinOp) (x y : Operand) (p q : Pr) (w : World) : (eqGuard op 82 x y (prV p) (prV q)).run Try.prog w = .ok () w := run_eqGuard_agg w op _ x y _ _ prGuard
theorem prFields : Try.prog.underlying 82 = some (.struct (Try.prog.fieldsOf 82)) := by kernel_rfl
theorem prNeq (p q : Pr) (w : World) : (binOp .neq 82 (prV p) (prV q)).run Try.prog w = .ok (.bool (!((p.1.toList == q.1.toList) && (p.2.toList == q.2.toList)))) w := by
  rw [run_neq_struct, run_equalIn_struct _ _ _ _ _ prFields prHeld]
  cases h1 : (p.1.toList == q.1.toList) <;> cases h2 : (p.2.toList == q.2.toList) <;> simp [go_sem, Try.underlying82, Try.underlying9, h1, h2]
/-- Two lists of pairs: the reference's own comparison. -/
theorem ne_of_at' {xs ys : List Pr} {k : Nat} (h1 : k < xs.length) (h2 : k < ys.length) (he : decide (xs[k] = ys[k]) = false) : decide (xs = ys) = false := by
  apply decide_eq_false
  intro h
  subst h
  simp at he
set_option maxRecDepth 100000 in
theorem l11Same_any (A B : Option Addr) (c d : Nat) (xs ys : List Pr) (w : World) (hx : Rd w w.heap.size A (flat encP xs)) (hy : Rd w w.heap.size B (flat encP ys)) (hl : xs.length ≤ maxLen) (hl' : ys.length ≤ maxLen) :
    Calls Try.prog 116 #[.slice A xs.length c, .slice B ys.length d] w fun e w' => e = .returned (.bool (decide (xs = ys))) ∧ ∃ n, w' = w.drewN n := by
  unfold maxLen at hl hl'
  generalize hr : decide (xs = ys) = r
  have HR := Lib.hid hr
  clear hr
  by_cases hne : xs.length = ys.length
  · have HX := Lib.hid hx
    have HY := Lib.hid hy
    clear hx hy
    have hb0 : ((xs.length : Int) != (ys.length : Int)) = false := by rw [hne]; simp
    have hle : xs.length ≤ ys.length := by omega
    have hge : ys.length ≤ xs.length := by omega
    clear hne
    go_enter Try.func116, Try.ntmps116
    go_wp2
    go_loopw [5] (fun i wr => ∃ k q : Nat, k ≤ xs.length ∧ i = .int .i64 k ∧ xs.take k = ys.take k ∧ wr = w.drewN q) (fun i _ => xs.length - (intOf i).toNat)
    case atStart => exact ⟨0, 0, Nat.zero_le _, rfl, rfl, rfl⟩
    case round =>
      obtain ⟨k, q, hk, rfl, ht, rfl⟩ := hrel
      have HT := Lib.hid ht
      clear ht
      by_cases hlt : k < xs.length
      · have hlt' : k < ys.length := by omega
        obtain ⟨ad, rfl, _, hca, hcb⟩ := HX.out.pr hlt
        obtain ⟨bd, rfl, _, hda, hdb⟩ := HY.out.pr hlt'
        have hg : ∀ (op : BinOp) (x y : Operand) (w : World), (eqGuard op 82 x y (.agg #[.string xs[k].1, .string xs[k].2]) (.agg #[.string ys[k].1, .string ys[k].2])).run Try.prog w = .ok () w := fun op x y w => prEqGuard op x y xs[k] ys[k] w
        cases he : decide (xs[k] = ys[k]) with
        | true =>
          have hq : ∀ w : World, (binOp .neq 82 (.agg #[.string xs[k].1, .string xs[k].2]) (.agg #[.string ys[k].1, .string ys[k].2])).run Try.prog w = .ok (.bool false) w := fun w => by rw [prNeq, prNe he]; rfl
          have HE := Lib.hid he
          clear he
          go_wp2
          go_quiet (fail)
          go_wp2
          go_roundw
          case rel => exact ⟨k + 1, _, by omega, by go_num, take_eq_succ hlt hlt' HT.out (of_decide_eq_true HE.out), rfl⟩
          case measure => simp [intOf]; omega
        | false =>
          have hq : ∀ w : World, (binOp .neq 82 (.agg #[.string xs[k].1, .string xs[k].2]) (.agg #[.string ys[k].1, .string ys[k].2])).run Try.prog w = .ok (.bool true) w := fun w => by rw [prNeq, prNe he]; rfl
          have HE := Lib.hid he
          clear he
          go_wp2
          go_quiet (fail)
          go_wp2
          go_ret
          exact ⟨by rw [show r = false from HR.out.symm.trans (ne_of_at' hlt hlt' HE.out)]; rfl, _, (by rw [World.drewN_drewN])⟩
      · go_wp2
        go_ret
        exact ⟨(by rw [show r = true from HR.out.symm.trans (decide_eq_true (by have := HT.out; rwa [List.take_of_length_le (by omega), List.take_of_length_le (by omega)] at this))]; rfl), _, rfl⟩
  · have hf : r = false := by
      rw [← HR.out]
      simp
      intro h
      exact hne (by rw [h])
    subst hf
    clear hx hy HR
    have hb0 : ((xs.length : Int) != (ys.length : Int)) = true := by simp; omega
    clear hne
    go_enter Try.func116, Try.ntmps116
    go_wp2
    go_ret
    exact ⟨rfl, 0, rfl⟩

set_option maxRecDepth 100000 in
/-- The library's Equal at lists of pairs. -/
theorem equalP_any (A B : Option Addr) (c d : Nat) (xs ys : List Pr) (w : World) (hx : Rd w w.heap.size A (flat encP xs)) (hy : Rd w w.heap.size B (flat encP ys)) (hl : xs.length ≤ maxLen) (hl' : ys.length ≤ maxLen) :
    Calls Try.prog 119 #[.slice A xs.length c, .slice B ys.length d] w fun e w' => e = .returned (.bool (decide (xs = ys))) ∧ ∃ n, w' = w.drewN n := by
  unfold maxLen at hl hl'
  generalize hr : decide (xs = ys) = r
  have HR := Lib.hid hr
  clear hr
  by_cases hne : xs.length = ys.length
  · have HX := Lib.hid hx
    have HY := Lib.hid hy
    clear hx hy
    have hb0 : ((xs.length : Int) != (ys.length : Int)) = false := by rw [hne]; simp
    have hle : xs.length ≤ ys.length := by omega
    have hge : ys.length ≤ xs.length := by omega
    clear hne
    go_enter Try.func119, Try.ntmps119
    go_wp2
    go_loopw [13] (fun i wr => ∃ k q : Nat, k ≤ xs.length ∧ i = .int .i64 k ∧ xs.take k = ys.take k ∧ wr = w.drewN q) (fun i _ => xs.length - (intOf i).toNat)
    case atStart => exact ⟨0, 0, Nat.zero_le _, rfl, rfl, rfl⟩
    case round =>
      obtain ⟨k, q, hk, rfl, ht, rfl⟩ := hrel
      have HT := Lib.hid ht
      clear ht
      by_cases hlt : k < xs.length
      · have hlt' : k < ys.length := by omega
        obtain ⟨ad, rfl, _, hca, hcb⟩ := HX.out.pr hlt
        obtain ⟨bd, rfl, _, hda, hdb⟩ := HY.out.pr hlt'
        have hg : ∀ (op : BinOp) (x y : Operand) (w : World), (eqGuard op 82 x y (.agg #[.string xs[k].1, .string xs[k].2]) (.agg #[.string ys[k].1, .string ys[k].2])).run Try.prog w = .ok () w := fun op x y w => prEqGuard op x y xs[k] ys[k] w
        cases he : decide (xs[k] = ys[k]) with
        | true =>
          have hq : ∀ w : World, (binOp .neq 82 (.agg #[.string xs[k].1, .string xs[k].2]) (.agg #[.string ys[k].1, .string ys[k].2])).run Try.prog w = .ok (.bool false) w := fun w => by rw [prNeq, prNe he]; rfl
          have HE := Lib.hid he
          clear he
          go_wp2
          go_quiet (fail)
          go_wp2
          go_roundw
          case rel => exact ⟨k + 1, _, by omega, by go_num, take_eq_succ hlt hlt' HT.out (of_decide_eq_true HE.out), rfl⟩
          case measure => simp [intOf]; omega
        | false =>
          have hq : ∀ w : World, (binOp .neq 82 (.agg #[.string xs[k].1, .string xs[k].2]) (.agg #[.string ys[k].1, .string ys[k].2])).run Try.prog w = .ok (.bool true) w := fun w => by rw [prNeq, prNe he]; rfl
          have HE := Lib.hid he
          clear he
          go_wp2
          go_quiet (fail)
          go_wp2
          go_ret
          exact ⟨by rw [show r = false from HR.out.symm.trans (ne_of_at' hlt hlt' HE.out)]; rfl, _, (by rw [World.drewN_drewN])⟩
      · go_wp2
        go_ret
        exact ⟨(by rw [show r = true from HR.out.symm.trans (decide_eq_true (by have := HT.out; rwa [List.take_of_length_le (by omega), List.take_of_length_le (by omega)] at this))]; rfl), _, rfl⟩
  · have hf : r = false := by
      rw [← HR.out]
      simp
      intro h
      exact hne (by rw [h])
    subst hf
    clear hx hy HR
    have hb0 : ((xs.length : Int) != (ys.length : Int)) = true := by simp; omega
    clear hne
    go_enter Try.func119, Try.ntmps119
    go_wp2
    go_ret
    exact ⟨rfl, 0, rfl⟩
end Go.Proofs.Ytlfnpnkpjdmonaa
