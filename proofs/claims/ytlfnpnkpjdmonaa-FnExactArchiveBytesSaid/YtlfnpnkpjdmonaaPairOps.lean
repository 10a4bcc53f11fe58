import Derived.Test.YtlfnpnkpjdmonaaUnder
set_option linter.unusedVariables false
set_option linter.unusedSimpArgs false
namespace Go.Proofs.Ytlfnpnkpjdmonaa
open Go.RowKit

/-! ### the document's pair operations -/
theorem atP_at (l : List Pr) (k : ByteArray) (h : atP l k < l.length) : lt l[atP l k].1 k = false := by
  induction l with
  | nil => simp at h
  | cons p l ih =>
    by_cases h1 : lt p.1 k = true
    · have e : atP (p :: l) k = atP l k + 1 := by simp [atP, h1]
      have h2 : atP l k < l.length := by rw [e] at h; simpa using h
      have e2 : (p :: l)[atP (p :: l) k] = l[atP l k] := by simp [e]
      rw [e2]
      exact ih h2
    · have e : atP (p :: l) k = 0 := by simp [atP, h1]
      have e2 : (p :: l)[atP (p :: l) k] = p := by simp [e]
      rw [e2]
      simpa using h1
theorem atP_stop {l : List Pr} {k : ByteArray} {j : Nat} (hj : j ≤ l.length) (h1 : ∀ i (h : i < l.length), i < j → lt l[i].1 k = true) (h2 : ∀ h : j < l.length, lt l[j].1 k = false) : j = atP l k := by
  have h3 := atP_le l k
  rcases Nat.lt_trichotomy j (atP l k) with h | h | h
  · have h4 := atP_below l k j (by omega) h
    rw [h2 (by omega)] at h4
    cases h4
  · exact h
  · have h4 := atP_at l k (by omega)
    rw [h1 _ (by omega) h] at h4
    cases h4
set_option maxRecDepth 100000 in
theorem l01At_any (A : Option Addr) (c : Nat) (l : List Pr) (k : ByteArray) (w : World) (hx : Rd w w.heap.size A (flat encP l)) (hl : l.length ≤ 1048576) :
    Calls Try.prog 206 #[.slice A l.length c, .string k] w fun e w' => e = .returned (.int .i64 (atP l k)) ∧ w = w' := by
  have HX := Lib.hid hx
  clear hx
  go_enter Try.func206, Try.ntmps206
  go_wp2
  go_loopw [5] (fun a wr => ∃ j : Nat, j ≤ l.length ∧ a = .int .i64 j ∧ (∀ i (h : i < l.length), i < j → lt l[i].1 k = true) ∧ wr = w) (fun a _ => l.length - (intOf a).toNat)
  case atStart => exact ⟨0, Nat.zero_le _, rfl, fun i _ h => by omega, rfl⟩
  case round =>
    obtain ⟨j, hj, rfl, hall, rfl⟩ := hrel
    have HA := Lib.hid hall
    clear hall
    by_cases hlt : j < l.length
    · obtain ⟨ad, rfl, hbl, hca, hcb⟩ := HX.out.pr hlt
      cases hk : lt l[j].1 k with
      | true =>
        have hk2 : Op.bytesLess l[j].1.toList k.toList = true := hk
        have HK := Lib.hid hk
        clear hk
        go_wp2_with fail
        go_roundw
        case rel =>
          refine ⟨j + 1, hlt, by go_num, fun i hi hij => ?_, by first | rfl | trivial⟩
          rcases Nat.lt_or_ge i j with h | h
          · exact HA.out i hi h
          · obtain rfl : i = j := by omega
            exact HK.out
        case measure => simp [intOf]; omega
      | false =>
        have hk2 : Op.bytesLess l[j].1.toList k.toList = false := hk
        have HK := Lib.hid (atP_stop hj HA.out (fun _ => hk))
        clear hk
        go_wp2_with fail
        go_ret
        exact ⟨by rw [← HK.out]; rfl, rfl⟩
    · have HK := Lib.hid (atP_stop hj HA.out (fun h => absurd h hlt))
      go_wp2_with fail
      go_ret
      exact ⟨by rw [← HK.out]; rfl, rfl⟩
theorem Rd.none_nil {w : World} {B : Nat} {xs : List Value} (h : Rd w B none xs) : xs = [] := by
  by_cases hn : xs = []
  · exact hn
  · obtain ⟨ad, e, _⟩ := h hn
    cases e
theorem rd_cutP {w : World} {B g c : Nat} {l : List Pr} (h : Rd w B (some ⟨g, 0, none⟩) (flat encP l)) (hc : l.length ≤ c) (i : Nat) : Rd w B (if c = i then some ⟨g, 0, none⟩ else some ⟨g, i * 2, none⟩) (flat encP (l.drop i)) := by
  have h2 := h.cut (i * 2) (c = i) (fun e => by rw [flat_length encP_len]; omega)
  rw [flat_drop] at h2
  simpa only [Option.map_some, addr_lit, Nat.zero_add] using h2
theorem own_some {w : World} {base : Nat} {l : List Pr} {v : Value} (h : w.ownsRow base 82 2 v l.length (flat encP l)) (h0 : 0 < l.length) : ∃ g c, v = .slice (some ⟨g, 0, none⟩) l.length c ∧ l.length ≤ c := by
  rcases h.2 with ⟨h', h1⟩ | ⟨g, cap, cur, h', _, _, h2, _⟩
  · omega
  · exact ⟨g, cap, h', h2⟩
def MadeP (l : List Pr) (w : World) (e : Ending) (w' : World) : Prop := ∃ v, e = .returned v ∧ w'.ownsRow w.heap.size 82 2 v l.length (flat encP l) ∧ Below w.heap.size w w'
theorem neL {a b : ByteArray} (h : a ≠ b) : (a.toList == b.toList) = false ∧ (a.toList != b.toList) = true := by
  have h1 : (a.toList == b.toList) = false := by
    rw [beq_eq_false_iff_ne]
    intro e
    exact h (bytes_of_eq (by simp [e]))
  exact ⟨h1, by simp [bne, h1]⟩
theorem own_to {w : World} {base : Nat} {e : TypeId} {size n m : Nat} {v : Value} {xs ys : List Value} (h : w.ownsRow base e size v n xs) (e1 : n = m) (e2 : xs = ys) : w.ownsRow base e size v m ys := by
  subst e1 e2
  exact h
set_option maxRecDepth 100000 in
set_option maxHeartbeats 4000000 in
theorem l01Put_any (g c : Nat) (l : List Pr) (k x : ByteArray) (w : World) (hx : Rd w w.heap.size (some ⟨g, 0, none⟩) (flat encP l)) (hl : l.length ≤ 1048575) (hc : l.length ≤ c) :
    Calls Try.prog 139 #[.slice (some ⟨g, 0, none⟩) l.length c, .string k, .string x] w (MadeP (putP l k x) w) := by
  obtain ⟨I, hI⟩ : ∃ I, I = atP l k := ⟨_, rfl⟩
  have hIl : I ≤ l.length := by rw [hI]; exact atP_le l k
  have hb0 : Below w.heap.size w (w.alloc (.cells #[] 82)) := by repeat (first | exact Below.refl _ _ | assumption | refine Below.drew ?_ | refine below_drewN ?_ _ | refine Below.setCell ?_ (by first | exact Nat.le_refl _ | exact Below.size (by assumption) | (simp; done) | (simp; omega) | omega) _ | refine Below.alloc ?_ (by first | exact Nat.le_refl _ | exact Below.size (by assumption) | (simp; done) | (simp; omega) | omega) _)
  have HB0 := Lib.hid hb0
  have H0 : Hid ((w.alloc (.cells #[] 82)).ownsRow w.heap.size 82 2 (.slice (some ⟨w.heap.size, 0, none⟩) 0 0) 0 []) := own_empty_at (Nat.le_refl _) (heap_alloc_new _ _)
  have HC := Lib.hid (l01At_any (some ⟨g, 0, none⟩) c l k w hx (by omega))
  rw [← hI] at HC
  have hIc : I ≤ c := by omega
  have HT : Hid (Rd w w.heap.size (some ⟨g, 0, none⟩) (flat encP (l.take I))) := by
    have h := hx.take (I * 2)
    rw [flat_take l I hIl] at h
    exact h
  clear hb0
  cases hh : hitP l k with
  | true =>
    obtain ⟨hlt, hkey⟩ := mem_of_hit hh
    simp only [← hI] at hkey
    rw [← hI] at hlt
    obtain ⟨hca, hcb⟩ : w.cell? ⟨g, I * 2, none⟩ = some (.string l[I].1) ∧ w.cell? ⟨g, I * 2 + 1, none⟩ = some (.string l[I].2) := by
      obtain ⟨ad, e, _, h1, h2⟩ := hx.pr hlt
      injection e with e
      subst e
      simpa only [addr_lit, Nat.zero_add] using And.intro h1 h2
    rw [hkey] at hca
    have HR : Hid (Rd w w.heap.size (if c = I + 1 then some ⟨g, 0, none⟩ else some ⟨g, (I + 1) * 2, none⟩) (flat encP (l.drop (I + 1)))) := rd_cutP hx hc (I + 1)
    have HE : Hid (putP l k x = l.take I ++ (k, x) :: l.drop (I + 1)) := by
      show _ = _
      unfold putP
      rw [hh, ← hI]
      rfl
    have HL : Hid ((putP l k x).length = I + 1 + (l.length - (I + 1))) := by
      show _ = _
      rw [HE.out]
      simp only [List.length_append, List.length_take, List.length_cons, List.length_drop]
      omega
    have hw1 : IntKind.i64.wrap ((I : Int) + 1) = (I : Int) + 1 := IntWalk.i64_in _ (by omega)
    have hw2 : (0 : Int) ≤ (I : Int) + 1 := by omega
    have hw3 : ((I : Int) + 1).toNat = I + 1 := by omega
    have hw4 : (I : Int) + 1 ≤ (l.length : Int) := by omega
    have hw5 : I + 1 ≤ l.length := by omega
    have hw6 : I + 1 ≤ c := by omega
    clear hx hI hh hkey
    by_cases hci : c = I + 1
    · rw [if_pos hci] at HR
      subst hci
      go_enter Try.func139, Try.ntmps139
      go_wp2_with fail
      refine HC.out.mono ?_
      rintro e w1 ⟨rfl, rfl⟩
      go_wp2_with (at_builtin; refine push_row elPair rfl _ _ rfl w.heap.size _ 0 [] rfl H0.out w.heap.size (some ⟨g, 0, none⟩) I (I + 1) (flat encP (l.take I)) rfl (HT.out.below HB0.out) (by rw [flat_length encP_len, List.length_take, Nat.min_eq_left (by omega)]) (pr_one _) (by simp only [maxLen]; omega) (by omega) (by simp) (fun h => by cases h) ?_)
      intro v2 w2 hp
      have hbA := hp.below H0.out HB0.out (by simp)
      have HP := Lib.hid hp.1
      have HBA := Lib.hid hbA
      have hs2 := hbA.size
      clear hp hbA
      go_wp2_with (at_builtin; refine push_one elPair rfl _ _ rfl w.heap.size v2 I (flat encP (l.take I)) rfl (by simpa using HP.out) [.string k, .string x] _ rfl rfl rfl (by simp [Value.oneCell']) (by simp only [maxLen]; omega) (by omega) hs2 ?_)
      intro v3 w3 hp
      have hbC := hp.below HP.out HBA.out hs2
      have HP2 := Lib.hid hp.1
      have HBC := Lib.hid hbC
      have hs3 := hbC.size
      clear hp hbC
      go_wp2_with (at_builtin; refine push_row elPair rfl _ _ rfl w.heap.size v3 (I + 1) _ rfl HP2.out w.heap.size _ _ _ (flat encP (l.drop (I + 1))) rfl (HR.out.below HBC.out) (by have h := flat_length encP_len (l.drop (I + 1)); rw [List.length_drop] at h; omega) (pr_one _) (by simp only [maxLen]; omega) (by omega) hs3 (fun h => by cases h) ?_)
      intro v4 w4 hp
      have hbD := hp.below HP2.out HBC.out hs3
      have HP3 := Lib.hid hp.1
      clear hp
      go_wp2_with fail
      go_ret
      refine ⟨v4, rfl, ?_, hbD⟩
      rw [HL.out, HE.out, flat_append, flat_cons, ← List.append_assoc]
      exact own_to HP3.out (by omega) (by simp [encP])
    · rw [if_neg hci] at HR
      go_enter Try.func139, Try.ntmps139
      go_wp2_with fail
      refine HC.out.mono ?_
      rintro e w1 ⟨rfl, rfl⟩
      go_wp2_with (at_builtin; refine push_row elPair rfl _ _ rfl w.heap.size _ 0 [] rfl H0.out w.heap.size (some ⟨g, 0, none⟩) I c (flat encP (l.take I)) rfl (HT.out.below HB0.out) (by rw [flat_length encP_len, List.length_take, Nat.min_eq_left (by omega)]) (pr_one _) (by simp only [maxLen]; omega) (by omega) (by simp) (fun h => by cases h) ?_)
      intro v2 w2 hp
      have hbA := hp.below H0.out HB0.out (by simp)
      have HP := Lib.hid hp.1
      have HBA := Lib.hid hbA
      have hs2 := hbA.size
      clear hp hbA
      go_wp2_with (at_builtin; refine push_one elPair rfl _ _ rfl w.heap.size v2 I (flat encP (l.take I)) rfl (by simpa using HP.out) [.string k, .string x] _ rfl rfl rfl (by simp [Value.oneCell']) (by simp only [maxLen]; omega) (by omega) hs2 ?_)
      intro v3 w3 hp
      have hbC := hp.below HP.out HBA.out hs2
      have HP2 := Lib.hid hp.1
      have HBC := Lib.hid hbC
      have hs3 := hbC.size
      clear hp hbC
      go_wp2_with (at_builtin; refine push_row elPair rfl _ _ rfl w.heap.size v3 (I + 1) _ rfl HP2.out w.heap.size _ _ _ (flat encP (l.drop (I + 1))) rfl (HR.out.below HBC.out) (by have h := flat_length encP_len (l.drop (I + 1)); rw [List.length_drop] at h; omega) (pr_one _) (by simp only [maxLen]; omega) (by omega) hs3 (fun h => by cases h) ?_)
      intro v4 w4 hp
      have hbD := hp.below HP2.out HBC.out hs3
      have HP3 := Lib.hid hp.1
      clear hp
      go_wp2_with fail
      go_ret
      refine ⟨v4, rfl, ?_, hbD⟩
      rw [HL.out, HE.out, flat_append, flat_cons, ← List.append_assoc]
      exact own_to HP3.out (by omega) (by simp [encP])
  | false =>
    have hne : ∀ h : I < l.length, (l[I].1.toList == k.toList) = false := fun h => by
      have h2 := hitP_eq l k
      rw [hh, dif_pos (by rw [← hI]; exact h)] at h2
      simp only [← hI] at h2
      exact (neL (of_decide_eq_false h2.symm)).1
    have HR : Hid (Rd w w.heap.size (if c = I then some ⟨g, 0, none⟩ else some ⟨g, I * 2, none⟩) (flat encP (l.drop I))) := rd_cutP hx hc I
    have HE : Hid (putP l k x = l.take I ++ (k, x) :: l.drop I) := by
      show _ = _
      unfold putP
      rw [hh, ← hI]
      rfl
    have HL : Hid ((putP l k x).length = I + 1 + (l.length - I)) := by
      show _ = _
      rw [HE.out]
      simp only [List.length_append, List.length_take, List.length_cons, List.length_drop]
      omega
    by_cases hlt : I < l.length
    · obtain ⟨hca, hcb⟩ : w.cell? ⟨g, I * 2, none⟩ = some (.string l[I].1) ∧ w.cell? ⟨g, I * 2 + 1, none⟩ = some (.string l[I].2) := by
        obtain ⟨ad, e, _, h1, h2⟩ := hx.pr hlt
        injection e with e
        subst e
        simpa only [addr_lit, Nat.zero_add] using And.intro h1 h2
      have hn := hne hlt
      have hci : ¬ c = I := by omega
      rw [if_neg hci] at HR
      clear hx hI hh hne
      go_enter Try.func139, Try.ntmps139
      go_wp2_with fail
      refine HC.out.mono ?_
      rintro e w1 ⟨rfl, rfl⟩
      go_wp2_with (at_builtin; refine push_row elPair rfl _ _ rfl w.heap.size _ 0 [] rfl H0.out w.heap.size (some ⟨g, 0, none⟩) I c (flat encP (l.take I)) rfl (HT.out.below HB0.out) (by rw [flat_length encP_len, List.length_take, Nat.min_eq_left (by omega)]) (pr_one _) (by simp only [maxLen]; omega) (by omega) (by simp) (fun h => by cases h) ?_)
      intro v2 w2 hp
      have hbA := hp.below H0.out HB0.out (by simp)
      have HP := Lib.hid hp.1
      have HBA := Lib.hid hbA
      have hs2 := hbA.size
      clear hp hbA
      go_wp2_with (at_builtin; refine push_one elPair rfl _ _ rfl w.heap.size v2 I (flat encP (l.take I)) rfl (by simpa using HP.out) [.string k, .string x] _ rfl rfl rfl (by simp [Value.oneCell']) (by simp only [maxLen]; omega) (by omega) hs2 ?_)
      intro v3 w3 hp
      have hbC := hp.below HP.out HBA.out hs2
      have HP2 := Lib.hid hp.1
      have HBC := Lib.hid hbC
      have hs3 := hbC.size
      clear hp hbC
      go_wp2_with (at_builtin; refine push_row elPair rfl _ _ rfl w.heap.size v3 (I + 1) _ rfl HP2.out w.heap.size _ _ _ (flat encP (l.drop I)) rfl (HR.out.below HBC.out) (by have h := flat_length encP_len (l.drop I); rw [List.length_drop] at h; omega) (pr_one _) (by simp only [maxLen]; omega) (by omega) hs3 (fun h => by cases h) ?_)
      intro v4 w4 hp
      have hbD := hp.below HP2.out HBC.out hs3
      have HP3 := Lib.hid hp.1
      clear hp
      go_wp2_with fail
      go_ret
      refine ⟨v4, rfl, ?_, hbD⟩
      rw [HL.out, HE.out, flat_append, flat_cons, ← List.append_assoc]
      exact own_to HP3.out (by omega) (by simp [encP])
    · obtain rfl : I = l.length := by omega
      have hdi : decide ((l.length : Int) < (l.length : Int)) = false := by simp
      clear hx hI hh hne hlt
      by_cases hci : c = l.length
      · rw [if_pos hci] at HR
        subst hci
        go_enter Try.func139, Try.ntmps139
        go_wp2_with fail
        refine HC.out.mono ?_
        rintro e w1 ⟨rfl, rfl⟩
        go_wp2_with (at_builtin; refine push_row elPair rfl _ _ rfl w.heap.size _ 0 [] rfl H0.out w.heap.size (some ⟨g, 0, none⟩) l.length l.length (flat encP (l.take l.length)) rfl (HT.out.below HB0.out) (by rw [flat_length encP_len, List.length_take, Nat.min_eq_left (by omega)]) (pr_one _) (by simp only [maxLen]; omega) (by omega) (by simp) (fun h => by cases h) ?_)
        intro v2 w2 hp
        have hbA := hp.below H0.out HB0.out (by simp)
        have HP := Lib.hid hp.1
        have HBA := Lib.hid hbA
        have hs2 := hbA.size
        clear hp hbA
        go_wp2_with (at_builtin; refine push_one elPair rfl _ _ rfl w.heap.size v2 l.length (flat encP (l.take l.length)) rfl (by simpa using HP.out) [.string k, .string x] _ rfl rfl rfl (by simp [Value.oneCell']) (by simp only [maxLen]; omega) (by omega) hs2 ?_)
        intro v3 w3 hp
        have hbC := hp.below HP.out HBA.out hs2
        have HP2 := Lib.hid hp.1
        have HBC := Lib.hid hbC
        have hs3 := hbC.size
        clear hp hbC
        go_wp2_with (at_builtin; refine push_row elPair rfl _ _ rfl w.heap.size v3 (l.length + 1) _ rfl HP2.out w.heap.size _ _ _ (flat encP (l.drop l.length)) rfl (HR.out.below HBC.out) (by have h := flat_length encP_len (l.drop l.length); rw [List.length_drop] at h; omega) (pr_one _) (by simp only [maxLen]; omega) (by omega) hs3 (fun h => by cases h) ?_)
        intro v4 w4 hp
        have hbD := hp.below HP2.out HBC.out hs3
        have HP3 := Lib.hid hp.1
        clear hp
        go_wp2_with fail
        go_ret
        refine ⟨v4, rfl, ?_, hbD⟩
        rw [HL.out, HE.out, flat_append, flat_cons, ← List.append_assoc]
        exact own_to HP3.out (by omega) (by simp [encP])
      · rw [if_neg hci] at HR
        go_enter Try.func139, Try.ntmps139
        go_wp2_with fail
        refine HC.out.mono ?_
        rintro e w1 ⟨rfl, rfl⟩
        go_wp2_with (at_builtin; refine push_row elPair rfl _ _ rfl w.heap.size _ 0 [] rfl H0.out w.heap.size (some ⟨g, 0, none⟩) l.length c (flat encP (l.take l.length)) rfl (HT.out.below HB0.out) (by rw [flat_length encP_len, List.length_take, Nat.min_eq_left (by omega)]) (pr_one _) (by simp only [maxLen]; omega) (by omega) (by simp) (fun h => by cases h) ?_)
        intro v2 w2 hp
        have hbA := hp.below H0.out HB0.out (by simp)
        have HP := Lib.hid hp.1
        have HBA := Lib.hid hbA
        have hs2 := hbA.size
        clear hp hbA
        go_wp2_with (at_builtin; refine push_one elPair rfl _ _ rfl w.heap.size v2 l.length (flat encP (l.take l.length)) rfl (by simpa using HP.out) [.string k, .string x] _ rfl rfl rfl (by simp [Value.oneCell']) (by simp only [maxLen]; omega) (by omega) hs2 ?_)
        intro v3 w3 hp
        have hbC := hp.below HP.out HBA.out hs2
        have HP2 := Lib.hid hp.1
        have HBC := Lib.hid hbC
        have hs3 := hbC.size
        clear hp hbC
        go_wp2_with (at_builtin; refine push_row elPair rfl _ _ rfl w.heap.size v3 (l.length + 1) _ rfl HP2.out w.heap.size _ _ _ (flat encP (l.drop l.length)) rfl (HR.out.below HBC.out) (by have h := flat_length encP_len (l.drop l.length); rw [List.length_drop] at h; omega) (pr_one _) (by simp only [maxLen]; omega) (by omega) hs3 (fun h => by cases h) ?_)
        intro v4 w4 hp
        have hbD := hp.below HP2.out HBC.out hs3
        have HP3 := Lib.hid hp.1
        clear hp
        go_wp2_with fail
        go_ret
        refine ⟨v4, rfl, ?_, hbD⟩
        rw [HL.out, HE.out, flat_append, flat_cons, ← List.append_assoc]
        exact own_to HP3.out (by omega) (by simp [encP])
end Go.Proofs.Ytlfnpnkpjdmonaa
