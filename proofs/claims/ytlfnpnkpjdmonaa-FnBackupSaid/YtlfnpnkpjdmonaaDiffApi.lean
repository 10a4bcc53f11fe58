import Derived.Test.YtlfnpnkpjdmonaaDiffS
import Derived.Test.YtlfnpnkpjdmonaaApply
set_option linter.unusedVariables false
set_option linter.unusedSimpArgs false
namespace Go.Proofs.Ytlfnpnkpjdmonaa
open Go.RowKit

/-! ### the operations on differences as they are called -/
theorem dfGuard : Try.prog.eqGuardType Try.prog.depth 145 = false := by kernel_rfl
theorem dfEqGuard (op : BinOp) (x y : Operand) (p q : Df) (w : World) : (eqGuard op 145 x y (dfV p) (dfV q)).run Try.prog w = .ok () w := run_eqGuard_agg w op _ x y _ _ dfGuard
theorem dfNeq (d : Df) (w : World) : (binOp .neq 145 (dfV d) (dfV d)).run Try.prog w = .ok (.bool false) w := by
  obtain ⟨key, old, new, had, has⟩ := d
  have h1 : (key.toList == key.toList) = true := by simp
  have h2 : (old.toList == old.toList) = true := by simp
  have h3 : (new.toList == new.toList) = true := by simp
  cases had <;> cases has <;> simp [go_sem, Try.underlying145, Try.underlying9, Try.underlying4, h1, h2, h3]
set_option maxRecDepth 100000 in
theorem sameDiffs_eq (A B : Option Addr) (c d : Nat) (xs : List Df) (w : World) (hx : Rd w w.heap.size A (flat encD xs)) (hy : Rd w w.heap.size B (flat encD xs)) (hl : xs.length ≤ maxLen) :
    Calls Try.prog 55 #[.slice A xs.length c, .slice B xs.length d] w fun e w' => e = .returned (.bool true) ∧ ∃ n, w' = w.drewN n := by
  unfold maxLen at hl
  have HX := Lib.hid hx
  have HY := Lib.hid hy
  clear hx hy
  have hb0 : ((xs.length : Int) != (xs.length : Int)) = false := by simp
  go_enter Try.func55, Try.ntmps55
  go_wp2
  go_loopw [5] (fun i wr => ∃ k q : Nat, k ≤ xs.length ∧ i = .int .i64 k ∧ wr = w.drewN q) (fun i _ => xs.length - (intOf i).toNat)
  case atStart => exact ⟨0, 0, Nat.zero_le _, rfl, rfl⟩
  case round =>
    obtain ⟨k, q, hk, rfl, rfl⟩ := hrel
    by_cases hlt : k < xs.length
    · obtain ⟨ad, rfl, _, h0, h1, h2, h3, h4⟩ := HX.out.df hlt
      obtain ⟨bd, rfl, _, g0, g1, g2, g3, g4⟩ := HY.out.df hlt
      obtain ⟨x, hx⟩ : ∃ x, x = xs[k] := ⟨_, rfl⟩
      rw [← hx] at h0 h1 h2 h3 h4 g0 g1 g2 g3 g4
      clear hx
      have hg : ∀ (op : BinOp) (a b : Operand) (w : World), (eqGuard op 145 a b (.agg #[.string x.key, .string x.old, .string x.new, .bool x.had, .bool x.has]) (.agg #[.string x.key, .string x.old, .string x.new, .bool x.had, .bool x.has])).run Try.prog w = .ok () w := fun op a b w => dfEqGuard op a b x x w
      have hq : ∀ w : World, (binOp .neq 145 (.agg #[.string x.key, .string x.old, .string x.new, .bool x.had, .bool x.has]) (.agg #[.string x.key, .string x.old, .string x.new, .bool x.had, .bool x.has])).run Try.prog w = .ok (.bool false) w := fun w => dfNeq x w
      go_wp2
      go_quiet (fail)
      go_wp2
      go_roundw
      case rel => exact ⟨k + 1, _, by omega, by go_num, rfl⟩
      case measure => simp [intOf]; omega
    · go_wp2
      go_ret
      exact ⟨rfl, _, rfl⟩
/-- pairs that may be told apart -/
structure Told (l : List Pr) : Prop where
  len : l.length ≤ 60
  rise : Rise l
  fine : ∀ p ∈ l, pairB p = true
theorem Told.ok {l : List Pr} (h : Told l) : okP l = true := okP_of h.len h.rise h.fine
theorem Told.sz {l : List Pr} (h : Told l) : ∀ p ∈ l, PSz p := fun p hp => pairB_sz (h.fine p hp)
def MadeDT (l : List Df) (code : Int) (w : World) (e : Ending) (w' : World) : Prop := ∃ v, e = .returned (.tuple #[v, .int .i64 code]) ∧ w'.ownsRow w.heap.size 145 5 v l.length (flat encD l) ∧ Below w.heap.size w w'
set_option maxRecDepth 100000 in
theorem diffPairs_any (A B : Option Addr) (ca cb : Nat) (l m : List Pr) (w : World) (hx : Rd w w.heap.size A (flat encP l)) (hy : Rd w w.heap.size B (flat encP m)) (hl : Told l) (hm : Told m) (hca : l.length ≤ ca) (hcb : m.length ≤ cb) :
    Calls Try.prog 52 #[.slice A l.length ca, .slice B m.length cb] w (MadeDT (diffM l m) 0 w) := by
  have h1 := hl.len
  have h2 := hm.len
  have HX := Lib.hid hx
  have HY := Lib.hid hy
  have HC := Lib.hid (implPairsOK_any A ca l w hx (by omega) hl.sz)
  rw [hl.ok] at HC
  have HS := Lib.hid hm
  clear hx hy
  go_enter Try.func52, Try.ntmps52
  go_wp2_with fail
  refine HC.out.mono ?_
  rintro e w1 ⟨rfl, hb1⟩
  have HX1 := Lib.hid (HX.out.next hb1)
  have HY1 := Lib.hid (HY.out.next hb1)
  have HB1 := Lib.hid hb1
  clear hb1
  go_wp2_with fail
  refine (implPairsOK_any B cb m _ HY1.out (by omega) HS.out.sz).mono ?_
  rw [HS.out.ok]
  rintro e w2 ⟨rfl, hb2⟩
  have HX2 := Lib.hid (HX1.out.next hb2)
  have HY2 := Lib.hid (HY1.out.next hb2)
  have HB2 := Lib.hid (below_after HB1.out hb2)
  clear hb2
  go_wp2_with fail
  refine (diffs_any A B ca cb l m _ HX2.out HY2.out (by omega) (by omega) hca hcb).mono ?_
  rintro e w3 ⟨v, rfl, ho, hb3⟩
  have HO := Lib.hid (own_mono ho HB2.out.size)
  have HB3 := Lib.hid (below_after HB2.out hb3)
  clear ho hb3
  go_wp2_with fail
  go_ret2
  exact ⟨_, rfl, HO.out, HB3.out⟩
set_option maxRecDepth 100000 in
theorem diffPairsS_any (A B : Option Addr) (ca cb : Nat) (l m : List Pr) (w : World) (hx : Rd w w.heap.size A (flat encP l)) (hy : Rd w w.heap.size B (flat encP m)) (hl : Told l) (hm : Told m) :
    Calls Try.prog 53 #[.slice A l.length ca, .slice B m.length cb] w (MadeDT (diffM l m) 0 w) := by
  have h1 := hl.len
  have h2 := hm.len
  have HX := Lib.hid hx
  have HY := Lib.hid hy
  have HC := Lib.hid (specPairsOK_any A ca l w hx (by omega) hl.sz)
  rw [hl.ok] at HC
  have HS := Lib.hid hm
  clear hx hy
  go_enter Try.func53, Try.ntmps53
  go_wp2_with fail
  refine HC.out.mono ?_
  rintro e w1 ⟨rfl, hb1⟩
  have HX1 := Lib.hid (HX.out.next hb1)
  have HY1 := Lib.hid (HY.out.next hb1)
  have HB1 := Lib.hid hb1
  clear hb1
  go_wp2_with fail
  refine (specPairsOK_any B cb m _ HY1.out (by omega) HS.out.sz).mono ?_
  rw [HS.out.ok]
  rintro e w2 ⟨rfl, hb2⟩
  have HX2 := Lib.hid (HX1.out.next hb2)
  have HY2 := Lib.hid (HY1.out.next hb2)
  have HB2 := Lib.hid (below_after HB1.out hb2)
  clear hb2
  go_wp2_with fail
  refine (l05Diff_any A B ca cb l m _ HX2.out HY2.out (by omega) (by omega)).mono ?_
  rintro e w3 ⟨v, rfl, ho, hb3⟩
  have HO := Lib.hid (own_mono ho HB2.out.size)
  have HB3 := Lib.hid (below_after HB2.out hb3)
  clear ho hb3
  go_wp2_with fail
  go_ret2
  exact ⟨_, rfl, HO.out, HB3.out⟩
set_option maxRecDepth 100000 in
theorem applyDiff_any (A B : Option Addr) (ca cb : Nat) (l : List Pr) (ds : List Df) (w : World) (hx : Rd w w.heap.size A (flat encP l)) (hy : Rd w w.heap.size B (flat encD ds)) (hl : Told l) (hd : ds.length ≤ 120) (hok : ∀ d ∈ ds, DOk d) (hn : A = none → ca = 0) (h60 : ∀ r, applyM l ds = some r → r.length ≤ 60) :
    Calls Try.prog 54 #[.slice A l.length ca, .slice B ds.length cb] w (AppPost l (applyM l ds) w) := by
  have h1 := hl.len
  have HX := Lib.hid hx
  have HY := Lib.hid hy
  have HC := Lib.hid (implPairsOK_any A ca l w hx (by omega) hl.sz)
  rw [hl.ok] at HC
  have HL := Lib.hid hl
  have HOK := Lib.hid hok
  have HN := Lib.hid hn
  have H60 := Lib.hid h60
  clear hx hy hl hok hn h60
  obtain ⟨code, hcode⟩ : ∃ code : Int, code = if (applyM l ds).isSome then 0 else 18 := ⟨_, rfl⟩
  have HAD : Hid (∀ w1 : World, Rd w1 w1.heap.size A (flat encP l) → Rd w1 w1.heap.size B (flat encD ds) → Calls Try.prog 132 #[.slice A l.length ca, .slice B ds.length cb] w1 (MadeT ((applyM l ds).getD l) code w1)) := fun w1 hx1 hy1 => by
    rw [hcode]
    exact applyDiffs_any A B ca cb l ds w1 hx1 hy1 h1 hd HL.out.rise HOK.out HN.out H60.out
  unfold AppPost
  rw [← hcode]
  clear hcode
  go_enter Try.func54, Try.ntmps54
  go_wp2_with fail
  refine HC.out.mono ?_
  rintro e w1 ⟨rfl, hb1⟩
  have HX1 := Lib.hid (HX.out.next hb1)
  have HY1 := Lib.hid (HY.out.next hb1)
  have HB1 := Lib.hid hb1
  clear hb1
  go_wp2_with fail
  refine (HAD.out _ HX1.out HY1.out).mono ?_
  rintro e w3 ⟨v, rfl, ho, hb3⟩
  have HO := Lib.hid (own_mono ho HB1.out.size)
  have HB3 := Lib.hid (below_after HB1.out hb3)
  clear ho hb3
  go_wp2_with fail
  go_ret2
  exact ⟨_, rfl, HO.out, HB3.out⟩
end Go.Proofs.Ytlfnpnkpjdmonaa
