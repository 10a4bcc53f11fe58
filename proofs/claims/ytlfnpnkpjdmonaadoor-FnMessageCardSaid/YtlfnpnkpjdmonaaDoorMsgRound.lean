import Derived.Test.YtlfnpnkpjdmonaaDoorText
import Derived.Test.YtlfnpnkpjdmonaaDoorMail3
set_option linter.unusedVariables false
set_option linter.unusedSimpArgs false
namespace Go.Proofs.YtlfnpnkpjdmonaaDoor
open Go.RowKit

/-! ### a text that was made is read back -/
theorem cut1_app {c : UInt8} : ∀ {a r : List UInt8}, (∀ x ∈ a, x ≠ c) → cut1 c (a ++ c :: r) = some (a, r)
  | [], r, _ => by simp [cut1]
  | x :: a, r, h => by
    rw [List.cons_append, cut1, if_neg (h x (List.mem_cons_self ..)), cut1_app (fun y hy => h y (List.mem_cons_of_mem _ hy))]
    rfl
theorem lnB_mem {n : List UInt8} (h : lnB n = true) : ∀ x ∈ n, mchB x = true := by
  rw [lnB, Bool.and_eq_true, List.all_eq_true] at h
  exact h.1
theorem lvB_mem {n : List UInt8} (h : lvB n = true) : ∀ x ∈ n, lvcB x = true := by
  rw [lvB, Bool.and_eq_true, List.all_eq_true] at h
  exact h.1
theorem line_made {n v : List UInt8} (h1 : lnB n = true) (h2 : lvB v = true) : lineM (n ++ 58 :: 32 :: v) = some (bs n, bs v) := by
  rw [lineM_some (cut1_app (fun x hx e => by have := lnB_mem h1 x hx; rw [e] at this; exact absurd this (by decide)))]
  simp only
  rw [if_pos trivial, if_pos (by rw [lineB, h1, h2]; rfl)]
theorem line_no10 {n v : List UInt8} (h1 : lnB n = true) (h2 : lvB v = true) : ∀ x ∈ n ++ 58 :: 32 :: v, x ≠ 10 := by
  intro x hx e
  subst e
  rw [List.mem_append, List.mem_cons, List.mem_cons] at hx
  rcases hx with hx | hx | hx | hx
  · exact absurd (lnB_mem h1 _ hx) (by decide)
  · exact absurd hx (by decide)
  · exact absurd hx (by decide)
  · exact absurd (lvB_mem h2 _ hx) (by decide)
theorem msgM_made (b : List UInt8) : ∀ (fs gs : List Pr), (∀ f ∈ fs, DrawnF f) → msgM gs (txtM fs b) = some (gs ++ fs, b)
  | [], gs, _ => by
    have hc : cut1 10 (txtM [] b) = some ([], b) := cut1_app (a := []) (by simp)
    rw [msgM_some hc, if_pos rfl, List.append_nil]
  | p :: fs, gs, h => by
    obtain ⟨h1, h2, _, _⟩ := drawnF_ok (h p (List.mem_cons_self ..))
    have e : txtM (p :: fs) b = (p.1.data.toList ++ 58 :: 32 :: p.2.data.toList) ++ 10 :: txtM fs b := by
      rw [txtM, txtM, hdrM_cons]
      simp
    rw [e, msgM_some (cut1_app (line_no10 h1 h2)), if_neg (by simp)]
    simp only
    rw [line_made h1 h2]
    simp only
    rw [show (bs p.1.data.toList, bs p.2.data.toList) = p from by rw [← bs_eta' p.1, ← bs_eta' p.2], msgM_made b fs _ (fun f hf => h f (List.mem_cons_of_mem _ hf))]
    simp
theorem parM_made {fs : List Pr} {b : List UInt8} (h : DrawnM fs b) : parM (txtM fs b) = some (fs, b) := by
  rw [parM, msgM_made b fs [] h.2.1]
  have := h.1
  simp only [List.nil_append]
  rw [if_pos (by omega)]
theorem parI_made {fs : List Pr} {b : List UInt8} (h : DrawnM fs b) : parI (txtM fs b) = some (fs, b) := by
  have := txtM_len h
  rw [parI, if_neg (by omega), parM_made h]
theorem pmM_made {fs : List Pr} {b : List UInt8} (h : DrawnM fs b) : pmM (txtM fs b) = ((fs, bs b), 0) := by
  have := txtM_len h
  rw [pmM, if_neg (by omega), parI_made h]
theorem mok_made {fs : List Pr} {b : List UInt8} (h : DrawnM fs b) : mokB (txtM fs b) = true := by
  rw [show mokB (txtM fs b) = (parI (txtM fs b)).isSome from rfl, parI_made h]
  rfl
theorem fo_made {fs : List Pr} {b : List UInt8} (h : DrawnM fs b) {p : Pr} (hp : p ∈ fs) : ∃ v, foM (txtM fs b) p.1.data.toList = (v, 0) ∧ v.size ≤ 9 := by
  have hl := txtM_len h
  obtain ⟨_, _, h3, _⟩ := drawnF_ok (h.2.1 p hp)
  have e1 : p.1.data.toList.length = p.1.size := rfl
  have hf : (fieldR fs p.1.data.toList).2 = true := by
    unfold fieldR
    cases hq : fs.find? (fun q => sameL q.1.data.toList p.1.data.toList) with
    | some q => rfl
    | none => exact absurd (List.find?_eq_none.1 hq p hp) (by simp [sameL])
  refine ⟨(fieldR fs p.1.data.toList).1, ?_, fieldR_size (fun q hq => (drawnF_ok (h.2.1 q hq)).2.2.2)⟩
  rw [foM, if_neg (by omega), parI_made h]
  simp only
  rw [if_pos hf]
def nowhere : List UInt8 := [78, 111, 119, 104, 101, 114, 101]
theorem name_nowhere {n : List UInt8} (h : n ∈ drawnNames) : sameL n nowhere = false := by
  simp only [drawnNames, List.mem_cons, List.not_mem_nil, or_false] at h
  rcases h with rfl | rfl | rfl | rfl <;> decide
theorem fo_nowhere {fs : List Pr} {b : List UInt8} (h : DrawnM fs b) : foM (txtM fs b) nowhere = (⟨#[]⟩, 5) := by
  have hl := txtM_len h
  have hf : fieldR fs nowhere = (⟨#[]⟩, false) := fieldR_none (fun p hp => by
    obtain ⟨n, hn, v, hv, rfl⟩ := h.2.1 p hp
    exact name_nowhere hn)
  rw [foM, if_neg (by simp [nowhere]; omega), parI_made h]
  simp only [hf]
  rfl
theorem index_tail (y : List UInt8) : ∀ a : List UInt8, 0 ≤ Go.Lib.index (a ++ y) y
  | [] => by
    cases y with
    | nil => simp [Go.Lib.index]
    | cons x t => simp [Go.Lib.index]
  | x :: a => by
    have ih := index_tail y a
    rw [List.cons_append, Go.Lib.index]
    split
    · omega
    · split
      · rename_i _ h; simp at h; omega
      · omega
theorem one_body {fs : List Pr} {b : List UInt8} (h : DrawnM fs b) : smM [⟨7, 0, bs (txtM fs b)⟩] [] b = ([7], 0) := by
  have hl := txtM_len h
  have hb := body_ok h.2.2
  have hh : hitM ⟨7, 0, bs (txtM fs b)⟩ [] b = true := by
    rw [hitM, if_pos rfl, Go.Lib.contains, decide_eq_true_eq]
    show 0 ≤ Go.Lib.index ((txtM fs b).map lowB) (b.map lowB)
    rw [txtM, List.map_append, List.map_cons, List.append_cons]
    exact index_tail _ _
  have hbig : [(⟨7, 0, bs (txtM fs b)⟩ : Ml)].any bigB = false := by simp [bigB]; rw [bs_size]; omega
  rw [smM, if_neg (by simp; omega), if_neg (by simp), if_neg (by rw [hbig]; simp), srchM]
  simp [hh]
theorem one_word {fs : List Pr} {b : List UInt8} (h : DrawnM fs b) (nl wl : List UInt8) (h1 : nl.length ≤ 100) (h2 : wl.length ≤ 100) : ∃ ns, smM [⟨7, 0, bs (txtM fs b)⟩] nl wl = (ns, 0) ∧ ns.length ≤ 1 := by
  have hl := txtM_len h
  have hbig : [(⟨7, 0, bs (txtM fs b)⟩ : Ml)].any bigB = false := by simp [bigB]; rw [bs_size]; omega
  refine ⟨srchM [⟨7, 0, bs (txtM fs b)⟩] nl wl, ?_, srchM_len _ _ _⟩
  rw [smM, if_neg (by simp; omega), if_neg (by simp), if_neg (by rw [hbig]; simp)]
set_option maxRecDepth 100000 in
theorem sameInts_eq (A B : Option Addr) (c d : Nat) (xs : List Int) (w : World) (hx : Rd w w.heap.size A (xs.map iv)) (hy : Rd w w.heap.size B (xs.map iv)) (hl : xs.length ≤ 1048576) :
    Calls Tryd.prog 30 #[.slice A xs.length c, .slice B xs.length d] w fun e w' => e = .returned (.bool true) ∧ Below w.heap.size w w' := by
  have HX := Lib.hid hx
  have HY := Lib.hid hy
  clear hx hy
  go_enter Tryd.func30, Tryd.ntmps30
  go_wp2
  go_loopw [5] (fun i wr => ∃ k : Nat, k ≤ xs.length ∧ i = .int .i64 k ∧ Below w.heap.size w wr) (fun i _ => xs.length - (intOf i).toNat)
  case atStart => exact ⟨0, Nat.zero_le _, rfl, Below.refl _ _⟩
  case round =>
    obtain ⟨k, hk, rfl, hb⟩ := hrel
    by_cases hlt : k < xs.length
    · obtain ⟨ad, rfl, hbl, h0⟩ := (HX.out.below hb).at_ (map_at (f := iv) hlt)
      obtain ⟨bd, rfl, hbl', g0⟩ := (HY.out.below hb).at_ (map_at (f := iv) hlt)
      generalize hgx : xs[k] = x at *
      clear hgx
      go_wp2
      go_region
      all_goals
        go_wp2_with fail
        go_roundw
        case rel => exact ⟨k + 1, by omega, by go_num, by first | exact hb.drew | exact hb⟩
        case measure => simp [intOf]; omega
    · go_wp2
      go_ret
      exact ⟨rfl, hb⟩
end Go.Proofs.YtlfnpnkpjdmonaaDoor
