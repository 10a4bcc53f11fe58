import Derived.Test.YtlfnpnkpjdmonaaSrc
set_option linter.unusedVariables false
set_option linter.unusedSimpArgs false
namespace Go.Proofs.Ytlfnpnkpjdmonaa
open Go.RowKit

set_option maxRecDepth 100000 in
theorem next_any (g : Nat) (m n : Int) (w : World) (h : Sr w g m) (hm : m ≤ 1099511627770) (hn : 1 < n) (hn2 : n ≤ 16777216) : Calls Try.prog 194 #[.pointer (some ⟨g, 0, none⟩), .int .i64 n] w (SrPost w g (m + 3) n) := by
  have HS := Lib.hid h
  clear h
  by_cases h256 : n ≤ 256
  · go_enter Try.func194, Try.ntmps194
    go_wp2_with fail
    refine (byte_any g m _ HS.out (by omega)).mono ?_
    rintro e w1 ⟨a, rfl, ha0, ha1, hs1, hg1⟩
    have H1 := Lib.hid (And.intro (hs1.more (m' := m + 3) (by omega)) hg1)
    clear hs1 hg1
    go_wp2_with fail
    go_ret
    exact ⟨_, rfl, Int.emod_nonneg _ (by omega), Int.emod_lt_of_pos _ (by omega), H1.out.1, H1.out.2⟩
  · go_enter Try.func194, Try.ntmps194
    go_wp2_with fail
    refine (byte_any g m _ HS.out (by omega)).mono ?_
    rintro e w1 ⟨a, rfl, ha0, ha1, hs1, hg1⟩
    have H1 := Lib.hid (And.intro hs1 hg1)
    clear hs1 hg1
    go_wp2_with fail
    refine (byte_any g _ _ H1.out.1 (by omega)).mono ?_
    rintro e w2 ⟨b, rfl, hb0, hb1, hs2, hg2⟩
    have H2 := Lib.hid (And.intro hs2 (grown_after H1.out.2 hg2))
    clear hs2 hg2 H1
    go_wp2_with fail
    refine (byte_any g _ _ H2.out.1 (by omega)).mono ?_
    rintro e w3 ⟨c, rfl, hc0, hc1, hs3, hg3⟩
    have H3 := Lib.hid (And.intro (hs3.more (m' := m + 3) (by omega)) (grown_after H2.out.2 hg3))
    clear hs3 hg3 H2
    go_wp2_with fail
    go_ret
    exact ⟨_, rfl, Int.emod_nonneg _ (by omega), Int.emod_lt_of_pos _ (by omega), H3.out.1, H3.out.2⟩
/-- next at one choice -/
theorem next_one (g : Nat) (m n : Int) (w : World) (h : Sr w g m) (hn : n ≤ 1) : Calls Try.prog 194 #[.pointer (some ⟨g, 0, none⟩), .int .i64 n] w fun e w' => e = .returned (.int .i64 0) ∧ w = w' := by
  clear h
  go_enter Try.func194, Try.ntmps194
  go_wp2_with fail
  go_ret
  exact ⟨rfl, rfl⟩
def PickPost (xs : List (List UInt8)) (w : World) (g : Nat) (m : Int) (e : Ending) (w' : World) : Prop := ∃ x ∈ xs, e = .returned (sv x) ∧ Sr w' g m ∧ w.grownBy w' (some g)
set_option maxRecDepth 100000 in
/-- one of some texts that lie above the source -/
theorem pick_any (g b : Nat) (m : Int) (c : Nat) (xs : List (List UInt8)) (w : World) (h : Sr w g m) (hm : m ≤ 1099511627770) (hgb : g < b) (hx : ∀ j, (hj : j < xs.length) → w.cell? ⟨b, j, none⟩ = some (sv xs[j])) (hb : b < w.heap.size) (hl : 1 < xs.length) (hl2 : xs.length ≤ 256) :
    Calls Try.prog 195 #[.pointer (some ⟨g, 0, none⟩), .slice (some ⟨b, 0, none⟩) xs.length c] w (PickPost xs w g (m + 3)) := by
  have HS := Lib.hid h
  have HX := Lib.hid hx
  clear h hx
  have hne : ((xs.length : Int) == 0) = false := by rw [beq_eq_false_iff_ne]; omega
  go_enter Try.func195, Try.ntmps195
  go_wp2_with fail
  refine (next_any g m xs.length _ HS.out hm (by omega) (by omega)).mono ?_
  rintro e w1 ⟨n, rfl, h0, h1, hs1, hg1⟩
  obtain ⟨n, rfl⟩ := Int.eq_ofNat_of_zero_le h0
  have hlt : n < xs.length := by omega
  have hc : w1.cell? ⟨b, n, none⟩ = some (sv xs[n]) := (World.cell?_of_block (hg1.block b hb (fun e => by have e' : b = g := Option.some.inj e; omega))).trans (HX.out n hlt)
  have H1 := Lib.hid (And.intro hs1 hg1)
  clear hs1 hg1
  go_wp2_with fail
  go_ret
  exact ⟨xs[n], List.getElem_mem _, rfl, H1.out.1, H1.out.2⟩
/-! ### texts that are drawn -/
def drawnTexts : List (List UInt8) := [[], [97], [116, 101, 120, 116], [0, 1]]
theorem Sr.own {w : World} {g : Nat} {m : Int} (h : Sr w g m) : g < w.heap.size := h.lt
def TextsPost (w : World) (g : Nat) (e : Ending) (w' : World) : Prop := ∃ (v : Value) (xs : List (List UInt8)), e = .returned v ∧ xs.length ≤ 5 ∧ (∀ x ∈ xs, x ∈ drawnTexts) ∧ w'.ownsRow w.heap.size 9 1 v xs.length (xs.map sv) ∧ w.grownBy w' (some g)
set_option maxRecDepth 100000 in
theorem texts_any (g : Nat) (m : Int) (w : World) (h : Sr w g m) (hm : m ≤ 1099511620000) : Calls Try.prog 124 #[.pointer (some ⟨g, 0, none⟩)] w (TextsPost w g) := by
  have hgl := h.lt
  have HS := Lib.hid (h.below ((Below.refl _ _).alloc (Nat.le_refl _) (.cells #[] 9)))
  have H0 : Hid ((w.alloc (.cells #[] 9)).ownsRow w.heap.size 9 1 (.slice (some ⟨w.heap.size, 0, none⟩) 0 0) 0 []) := own_empty_at (Nat.le_refl _) (heap_alloc_new _ _)
  have HG : Hid (w.grownBy (w.alloc (.cells #[] 9)) (some g)) := grown_below ((Below.refl _ _).alloc (Nat.le_refl _) _) _
  clear h
  go_enter Try.func124, Try.ntmps124
  go_wp2_with fail
  refine (next_any g m 6 _ HS.out (by omega) (by omega) (by omega)).mono ?_
  rintro e w1 ⟨n, rfl, h0, h1, hs1, hg1⟩
  have HS1 := Lib.hid hs1
  have HO1 := Lib.hid (H0.out.kept hg1 (.inr (by simp [Value.ownBlock]; omega)))
  have HG1 := Lib.hid (grown_after HG.out hg1)
  clear hs1 hg1 HS H0 HG
  go_wp2
  go_loopw [3, 4] (fun v i wr => ∃ (k : Int) (xs : List (List UInt8)), 0 ≤ k ∧ k + xs.length ≤ 5 ∧ i = .int .i64 k ∧ (∀ x ∈ xs, x ∈ drawnTexts) ∧ wr.ownsRow w.heap.size 9 1 v xs.length (xs.map sv) ∧ Sr wr g (m + 3 + 3 * xs.length) ∧ w.grownBy wr (some g)) (fun _ i _ => (intOf i).toNat)
  case atStart => exact ⟨n, [], h0, by simp; omega, rfl, by simp, HO1.out, by simpa using HS1.out, HG1.out⟩
  case round =>
    obtain ⟨k, xs, hk0, hkl, rfl, hall, ho, hs, hg⟩ := hrel
    have HA := Lib.hid hall
    have HO := Lib.hid ho
    have HS := Lib.hid hs
    have HG := Lib.hid hg
    have hsw := hg.size
    clear hall ho hs hg HS1 HO1 HG1
    by_cases hk : 0 < k
    · have HB : Hid (Below wr.heap.size wr (wr.alloc (.cells #[.string ⟨#[]⟩, .string ⟨#[97]⟩, .string ⟨#[116, 101, 120, 116]⟩, .string ⟨#[0, 1]⟩] 9))) := by show Below _ _ _; repeat (first | exact Below.refl _ _ | assumption | refine Below.drew ?_ | refine below_drewN ?_ _ | refine Below.setCell ?_ (by first | exact Nat.le_refl _ | exact Below.size (by assumption) | (simp; done) | (simp; omega) | omega) _ | refine Below.alloc ?_ (by first | exact Nat.le_refl _ | exact Below.size (by assumption) | (simp; done) | (simp; omega) | omega) _)
      go_wp2_with fail
      refine (pick_any g wr.heap.size (m + 3 + 3 * xs.length) 4 drawnTexts _ (HS.out.below HB.out) (by omega) (by omega) ?_ (by simp) (by simp [drawnTexts]) (by simp [drawnTexts])).mono ?_
      · intro j hj
        match j, hj with
        | 0, _ => simp [go_sem]; rfl
        | 1, _ => simp [go_sem]; rfl
        | 2, _ => simp [go_sem]; rfl
        | 3, _ => simp [go_sem]; rfl
      rintro e w2 ⟨x, hxm, rfl, hs2, hg2⟩
      have HS2 := Lib.hid hs2
      have HG2 := Lib.hid (grown_after (grown_after HG.out (grown_below HB.out (some g))) hg2)
      have hsz2 := hg2.size
      simp only [World.size_alloc] at hsz2
      have HO2 := Lib.hid ((own_below HO.out HB.out).kept hg2 (by
        cases hv : u3.ownBlock with
        | none => exact .inl rfl
        | some q => exact .inr (fun e => by have := (HO.out.lt q hv).1; injection e; omega)))
      have HX := Lib.hid hxm
      clear hs2 hg2 hxm
      go_wp2_with (at_builtin; refine push_one elStr rfl _ _ rfl w.heap.size u3 xs.length (xs.map sv) rfl HO2.out [sv x] _ rfl rfl rfl (by simp [Value.oneCell']) (by simp only [maxLen]; omega) (by omega) (by omega) ?_)
      intro v3 w3 hp
      have HS3 := Lib.hid (HS2.out.far hp.2 (fun q hq => by have := (HO2.out.lt q hq).1; omega))
      have HG3 : Hid (w.grownBy w3 (some g)) := ⟨hp.2.os.trans HG2.out.os, hp.2.tape.trans HG2.out.tape, hp.2.output.trans HG2.out.output, Nat.le_trans HG2.out.size hp.2.size, fun q hq hn => (hp.2.block q (Nat.lt_of_lt_of_le hq HG2.out.size) (fun e => by have := (HO2.out.lt q e.symm).1; omega)).trans (HG2.out.block q hq hn)⟩
      have HP := Lib.hid hp.1
      clear hp
      go_wp2_with fail
      go_roundw
      case rel =>
        refine ⟨k - 1, xs ++ [x], by omega, by simp; omega, by go_num, ?_, ?_, ?_, HG3.out⟩
        · intro y hy
          rw [List.mem_append] at hy
          rcases hy with hy | hy
          · exact HA.out y hy
          · simp at hy; subst hy; exact HX.out
        · have h := HP.out
          rw [List.length_append, List.map_append]
          exact h
        · exact HS3.out.more (by simp; omega)
      case measure => simp [intOf]; omega
    · go_wp2
      go_ret
      exact ⟨_, xs, rfl, by omega, HA.out, HO.out, HG.out⟩
end Go.Proofs.Ytlfnpnkpjdmonaa
