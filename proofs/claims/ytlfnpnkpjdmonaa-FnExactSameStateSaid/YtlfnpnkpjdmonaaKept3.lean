import Derived.Test.YtlfnpnkpjdmonaaKept2
set_option linter.unusedVariables false
set_option linter.unusedSimpArgs false
namespace Go.Proofs.Ytlfnpnkpjdmonaa
open Go.RowKit

theorem infoKept : (Try.prog.info? 131).map (fun i => (i.zero, i.size, i.bytes)) = some (some (.agg #[.string ⟨#[]⟩, .int .i64 0, .slice none 0 0]), 3, 48) := by kernel_rfl
def ToK (k : Kp) (w : World) (e : Ending) (w' : World) : Prop := ∃ A c, e = .returned (kpV ⟨k.name, k.tick, A, c, k.ps⟩) ∧ w'.ownsRow w.heap.size 82 2 (.slice A k.ps.length c) k.ps.length (flat encP k.ps) ∧ Below w.heap.size w w'
set_option maxRecDepth 100000 in
theorem toKept_any (k : Kp) (w : World) (hx : Rd w w.heap.size k.A (flat encP k.ps)) (hl : k.ps.length ≤ 1048576) :
    Calls Try.prog 192 #[kpV k] w (ToK k w) := by
  have HX := Lib.hid hx
  clear hx
  go_enter Try.func192, Try.ntmps192
  go_wp2_with fail
  refine (toPairS_any _ _ k.ps _ (by exact Rd.next HX.out (by repeat (first | exact Below.refl _ _ | assumption | refine Below.drew ?_ | refine below_drewN ?_ _ | refine Below.setCell ?_ (by first | exact Nat.le_refl _ | exact Below.size (by assumption) | (simp; done) | (simp; omega) | omega) _ | refine Below.alloc ?_ (by first | exact Nat.le_refl _ | exact Below.size (by assumption) | (simp; done) | (simp; omega) | omega) _))) hl).mono ?_
  rintro e w1 ⟨v1, rfl, ho1, hb1⟩
  obtain ⟨A1, c1, rfl, _⟩ := own_form ho1
  obtain ⟨hc1, hf1⟩ := bcell hb1; have hB1 : Below w.heap.size w w1 := Below.trans (by repeat (first | exact Below.refl _ _ | assumption | refine Below.drew ?_ | refine below_drewN ?_ _ | refine Below.setCell ?_ (by first | exact Nat.le_refl _ | exact Below.size (by assumption) | (simp; done) | (simp; omega) | omega) _ | refine Below.alloc ?_ (by first | exact Nat.le_refl _ | exact Below.size (by assumption) | (simp; done) | (simp; omega) | omega) _)) (hb1.mono (by first | exact Nat.le_refl _ | exact Below.size (by assumption) | (simp; done) | (simp; omega) | omega)); have hz1 := hB1.size; have hy1 := hb1.size; (try simp only [World.size_alloc, World.size_setCell, World.size_drew] at hy1)
  have HO1 := Lib.hid ho1
  clear ho1
  have hlt2 : w.heap.size + 1 + 1 < w1.heap.size := by omega
  have hlt1 : w.heap.size + 1 < w1.heap.size := by omega
  have hlt0 : w.heap.size < w1.heap.size := by omega
  have hfz : w1.frozen? ⟨w.heap.size + 1 + 1, 2, none⟩ = false := by
    rw [hf1 _ _ (by simp)]
    simp [go_sem]
  have hfz1 : ∀ j, w1.frozen? ⟨w.heap.size + 1, j, none⟩ = false := fun j => by
    rw [hf1 _ _ (by simp)]
    simp [go_sem]
  go_wp2_with fail
  refine bodyPost_ret (v := kpV ⟨k.name, k.tick, A1, c1, k.ps⟩) ?_ rfl ⟨_, _, rfl, ?_, ?_⟩
  · simp [results, Try.results192, go_sem, *]
  · have h := HO1.out
    simp only [World.size_alloc] at h
    refine own_mono (base := w.heap.size + 1 + 1 + 1) ?_ (by omega)
    repeat (first | (with_reducible refine ownSet ?_ (by omega) _ _) | with_reducible exact h)
  · repeat (first | exact Below.refl _ _ | assumption | refine Below.drew ?_ | refine below_drewN ?_ _ | refine Below.setCell ?_ (by first | exact Nat.le_refl _ | exact Below.size (by assumption) | (simp; done) | (simp; omega) | omega) _ | refine Below.alloc ?_ (by first | exact Nat.le_refl _ | exact Below.size (by assumption) | (simp; done) | (simp; omega) | omega) _)
end Go.Proofs.Ytlfnpnkpjdmonaa
