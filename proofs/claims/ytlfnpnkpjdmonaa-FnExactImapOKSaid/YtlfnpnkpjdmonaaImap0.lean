import Derived.Test.YtlfnpnkpjdmonaaNames
namespace Go.Proofs.Ytlfnpnkpjdmonaa
open Go.RowKit

/-! ### a session that reads mail -/
def imapB (u f : List UInt8) (o : Bool) : Bool := if u = [] then decide (f = []) else shortB u && o && (decide (f = []) || shortB f)

set_option maxRecDepth 100000 in
theorem specImapOK_any (u f : ByteArray) (o : Bool) (w : World) (hu : u.size ≤ maxLen) (hf : f.size ≤ maxLen) :
    Calls Try.prog 20 #[.agg #[.string u, .string f, .bool o]] w fun e w' => e = .returned (.bool (imapB u.data.toList f.data.toList o)) ∧ Below w.heap.size w w' := by
  go_enter Try.func20, Try.ntmps20
  go_wp2_with (go_at_call 102; refine (l04Name_any _ _ (by first | exact hu | exact hf)).mono ?_; rintro e w' ⟨rfl, rfl⟩)
  all_goals
    simp only [ByteArray.toList_eq] at *
    go_ret
    refine ⟨ret_b ?_, (Below.refl _ _).alloc (Nat.le_refl _) _⟩
    generalize u.data.toList = U at *
    generalize f.data.toList = F at *
    cases U <;> cases F <;> simp_all [imapB]

set_option maxRecDepth 100000 in
theorem implImapOK_any (u f : ByteArray) (o : Bool) (w : World) (hu : u.size ≤ maxLen) (hf : f.size ≤ maxLen) :
    Calls Try.prog 22 #[.agg #[.string u, .string f, .bool o]] w fun e w' => e = .returned (.bool (imapB u.data.toList f.data.toList o)) ∧ Below w.heap.size w w' := by
  go_enter Try.func22, Try.ntmps22
  go_wp2_with (go_at_call 103; refine (shortName_any _ _ (by first | exact hu | exact hf)).mono ?_; rintro e w' ⟨rfl, rfl⟩)
  all_goals
    simp only [ByteArray.toList_eq] at *
    go_ret
    refine ⟨ret_b ?_, (Below.refl _ _).alloc (Nat.le_refl _) _⟩
    generalize u.data.toList = U at *
    generalize f.data.toList = F at *
    cases U <;> cases F <;> simp_all [imapB]

theorem toImap_any (u f : ByteArray) (o : Bool) (w : World) :
    Calls Try.prog 21 #[.agg #[.string u, .string f, .bool o]] w fun e w' => e = .returned (.agg #[.string u, .string f, .bool o]) ∧ Below w.heap.size w w' := by
  go_enter Try.func21, Try.ntmps21
  go_wp2
  refine bodyPost_ret (v := .agg #[.string u, .string f, .bool o]) (by simp [results, Try.results21, go_sem]) rfl ⟨rfl, ?_⟩
  repeat (first | exact Below.refl _ _ | assumption | refine Below.drew ?_ | refine below_drewN ?_ _ | refine Below.setCell ?_ (by first | (simp; done) | (simp; omega) | omega) _ | refine Below.alloc ?_ (by first | (simp; done) | (simp; omega) | omega) _)
theorem szImap_any (u f : ByteArray) (o : Bool) (left : Int) (w : World) :
    Calls Try.prog 19 #[.agg #[.string u, .string f, .bool o], .int .i64 left] w fun e w' => ∃ n, e = .returned (.int .i64 n) ∧ Below w.heap.size w w' := by
  go_enter Try.func19, Try.ntmps19
  go_wp2
  all_goals
    go_ret
    exact ⟨_, rfl, (Below.refl _ _).alloc (Nat.le_refl _) _⟩
end Go.Proofs.Ytlfnpnkpjdmonaa
