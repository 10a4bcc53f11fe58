/- For every list of mails within the law's own bound of sizes, every name and every word, the program's SearchMails answers as the reference's: the same numbers, the same code; it writes into no argument, and its answers are new memory. The card ties the two listed tables of the library to the program's text. There are no conditions of ours. -/
import Derived.Test.YtlfnpnkpjdmonaaDoorDCard
import Derived.Test.YtlfnpnkpjdmonaaDoorCards
import Derived.Test.YtlfnpnkpjdmonaaDoorMail3
import Derived.Deep.Slices
import Derived.Deep.Fields
import Derived.ChangeSame
import Derived.ProofKit
import Derived.OpenShut
import Derived.ShutString
import Derived.ChangeOld
import Derived.Carry
import Derived.SizedLaws
set_option linter.unusedVariables false
set_option linter.unusedSimpArgs false
namespace Go.Proofs.YtlfnpnkpjdmonaaDoor.lawSearchMails
open Go.ChangeShapes Go.WideShapes Go.ChangeAt Go.RowKit Go.Joins Go.Deep
open Go.ChangeMaps (open_string shut_string)

/-! ### arguments that are slices of structs, opened -/
theorem choose_list {α : Type} {P : Nat → α → Prop} : ∀ n : Nat, (∀ i, i < n → ∃ x, P i x) → ∃ l : List α, l.length = n ∧ ∀ i (h : i < l.length), P i l[i]
  | 0, _ => ⟨[], rfl, fun i h => by simp at h⟩
  | n + 1, h => by
    obtain ⟨l, hl, hp⟩ := choose_list n fun i hi => h i (by omega)
    obtain ⟨x, hx⟩ := h n (by omega)
    refine ⟨l ++ [x], by simp [hl], fun i hi => ?_⟩
    rcases Nat.lt_or_ge i l.length with h1 | h1
    · rw [List.getElem_append_left h1]; exact hp i h1
    · obtain rfl : i = n := by simp at hi; omega
      rw [List.getElem_append_right h1]
      simpa [hl] using hx
section
variable {H : Type} {enc : TypeId × Value → H} {P : Program} {w : World} {base : Nat} {spare : Nat → Bool} {held : Bool}
theorem open_slice_fields {t e : TypeId} {fs : Array Field} {fuel : Nat} {cs : List Value} {x : DataW H × List MemPlace} (ht : P.underlying t = some (.slice e)) (he : P.underlying e = some (.struct fs))
    (hone : oneCellFields P fs = true) (hC : P.cellsOf e = fs.size) (h : DataW.trod enc P w base spare held fuel t cs = some x) :
    (cs = [.slice none 0 0] ∧ x = (.nil, [])) ∨
    ∃ (a : Addr) (len cap m : Nat), cs = [.slice (some a) len cap] ∧ len ≤ cap ∧ cap ≤ maxLen ∧ m = (if spare a.block then cap else len) ∧
      ∀ i, i < m → ∃ (n : Nat),
        ∀ (j : Nat) (f : Field), fs[j]? = some f → ∃ (v : Value) (y : DataW H × List MemPlace), w.cell? (a.add (i * fs.size + j)) = some v ∧ DataW.trod enc P w base spare held n f.type [v] = some y := by
  rcases open_slice ht h with h0 | ⟨a, len, cap, m, n, D, Pl, hcs, hb, hl, hm, hmm, hx, hi⟩
  · exact .inl h0
  · refine .inr ⟨a, len, cap, m, hcs, hl, hm, hmm, fun i him => ?_⟩
    obtain ⟨cs', hc, ht'⟩ := hi i him
    rw [hC] at hc
    obtain ⟨ys, n', hn', hy, hlen, hyl, hf⟩ := DataW.trod_struct he ht'
    obtain ⟨_, hcl, hat⟩ := World.cells?_some hc
    refine ⟨n', fun j f hj => ?_⟩
    obtain ⟨ho, hk⟩ := hone_of hone j f hj
    have hjl : j < fs.size := (Array.getElem?_eq_some_iff.1 hj).1
    have hcell := hat j hjl
    have hv : cs'[j]? = some (cs'[j]'(by omega)) := List.getElem?_eq_getElem (by omega)
    have h1 := hf j f hj
    rw [ho, hk] at h1
    have hone' : (cs'.drop j).take 1 = [cs'[j]'(by omega)] := by
      rw [List.drop_eq_getElem_cons (by omega)]
      rfl
    rw [hone'] at h1
    have hys : ys[j]? = some (ys[j]'(by omega)) := List.getElem?_eq_getElem (by omega)
    refine ⟨_, _, ?_, h1.trans hys⟩
    rw [← Go.Deep.add_add, hcell, hv]
theorem open_rows {α : Type} {en : α → List Value} {good : α → Prop} {t e : TypeId} {fs : Array Field} {fuel : Nat} {v : Value} {x : DataW H × List MemPlace} (ht : P.underlying t = some (.slice e)) (he : P.underlying e = some (.struct fs))
    (hone : oneCellFields P fs = true) (hC : P.cellsOf e = fs.size) (hpos : 0 < fs.size)
    (hel : ∀ (n : Nat) (g : Nat → Value), (∀ (j : Nat) (f : Field), fs[j]? = some f → ∃ y, DataW.trod enc P w 0 (fun _ => true) held n f.type [g j] = some y) → ∃ x : α, good x ∧ (en x).length = fs.size ∧ ∀ j u, (en x)[j]? = some u → g j = u)
    (hsz : ∀ x, (en x).length = fs.size)
    (h : DataW.trod enc P w 0 (fun _ => true) held fuel t [v] = some x) :
    ∃ (A : Option Addr) (c : Nat) (xs : List α), v = .slice A xs.length c ∧ Rd w w.heap.size A (flat en xs) ∧ xs.length ≤ maxLen ∧ ∀ x ∈ xs, good x := by
  rcases open_slice_fields ht he hone hC h with ⟨hcs, _⟩ | ⟨a, len, cap, m, hcs, hl, hm, hmm, hi⟩
  · simp only [List.cons.injEq, and_true] at hcs
    exact ⟨none, 0, [], hcs, Rd.nil _ _ _, Nat.zero_le _, by simp⟩
  · simp only [List.cons.injEq, and_true] at hcs
    simp only [if_true] at hmm
    subst hmm
    have hex : ∀ i, i < len → ∃ x : α, good x ∧ ∀ j u, (en x)[j]? = some u → w.cell? (a.add (i * fs.size + j)) = some u := by
      intro i hil
      obtain ⟨n, hf⟩ := hi i (by omega)
      have hg : ∀ j, ∃ v : Value, ∀ f, fs[j]? = some f → w.cell? (a.add (i * fs.size + j)) = some v ∧ ∃ y, DataW.trod enc P w 0 (fun _ => true) held n f.type [v] = some y := by
        intro j
        cases hj : fs[j]? with
        | none => exact ⟨.bool false, fun f hf => by cases hf⟩
        | some f =>
          obtain ⟨v, y, h1, h2⟩ := hf j f hj
          exact ⟨v, fun f' hf' => by injection hf' with e; subst e; exact ⟨h1, y, h2⟩⟩
      obtain ⟨g, hg⟩ := Classical.axiomOfChoice hg
      obtain ⟨x, hx1, hx2, hx3⟩ := hel n g fun j f hj => (hg j f hj).2
      refine ⟨x, hx1, fun j u hu => ?_⟩
      have hjl : j < fs.size := by
        have := (List.getElem?_eq_some_iff.1 hu).1
        omega
      rw [← hx3 j u hu]
      exact (hg j fs[j] (Array.getElem?_eq_getElem hjl)).1
    obtain ⟨xs, hlen, hp⟩ := choose_list len hex
    refine ⟨some a, m, xs, by rw [hlen]; exact hcs, fun hne => ?_, by omega, fun x hx => ?_⟩
    · have hcell : ∀ j u, (flat en xs)[j]? = some u → w.cell? (a.add j) = some u := by
        intro j u hu
        have hj := (List.getElem?_eq_some_iff.1 hu).1
        rw [flat_length hsz] at hj
        have hq : j / fs.size < xs.length := by rw [Nat.div_lt_iff_lt_mul hpos]; exact hj
        have hr : j % fs.size < fs.size := Nat.mod_lt _ hpos
        have hjj : j / fs.size * fs.size + j % fs.size = j := by have := Nat.div_add_mod j fs.size; rw [Nat.mul_comm] at this; exact this
        have hu2 : (en xs[j / fs.size])[j % fs.size]? = some u := by
          have hv : (en xs[j / fs.size])[j % fs.size]? = some ((en xs[j / fs.size])[j % fs.size]'(by rw [hsz]; exact hr)) := List.getElem?_eq_getElem _
          have h2 := flat_get hsz (List.getElem?_eq_getElem hq) hv
          rw [hjj, hu] at h2
          rw [hv, ← h2]
        have h3 := (hp _ hq).2 _ _ hu2
        rwa [hjj] at h3
      have hb : a.block < w.heap.size := by
        have hne' : 0 < (flat en xs).length := List.length_pos_iff.2 hne
        have h0 := hcell 0 _ (List.getElem?_eq_getElem hne')
        have := block_lt_of_cell h0
        rwa [add_block] at this
      exact ⟨a, rfl, hb, hcell⟩
    · obtain ⟨i, hi', rfl⟩ := List.mem_iff_getElem.1 hx
      exact (hp i hi').1
end


theorem cellsMail : Tryd.prog.cellsOf 69 = 3 := by kernel_rfl
set_option maxRecDepth 100000 in
theorem open_mails {H : Type} {enc : TypeId × Value → H} {W : World} {held : Bool} {n : Nat} {v : Value} {y : DataW H × List MemPlace} (h : DataW.trod enc Tryd.prog W 0 (fun _ => true) held n 33 [v] = some y) :
    ∃ (A : Option Addr) (c : Nat) (xs : List Ml), v = .slice A xs.length c ∧ Rd W W.heap.size A (flat encM xs) ∧ xs.length ≤ maxLen ∧ ∀ p ∈ xs, p.text.size ≤ maxLen := by
  refine open_rows (en := encM) Tryd.underlying33 Tryd.underlying69 (by kernel_rfl) cellsMail (by simp) (fun n g hg => ?_) (fun _ => rfl) h
  obtain ⟨y0, h0⟩ := hg 0 _ rfl
  obtain ⟨y1, h1⟩ := hg 1 _ rfl
  obtain ⟨y2, h2⟩ := hg 2 _ rfl
  obtain ⟨z0, e0, _⟩ := DataW.trod_int Tryd.underlying3 h0
  obtain ⟨z1, e1, _⟩ := DataW.trod_int Tryd.underlying3 h1
  obtain ⟨s2, e2, _, l2⟩ := DataW.trod_string Tryd.underlying9 h2
  simp only [List.cons.injEq, and_true] at e0 e1 e2
  refine ⟨⟨z0, z1, s2⟩, l2, rfl, fun j u hu => ?_⟩
  match j, hu with
  | 0, hu => simp [encM] at hu; rw [e0, hu]
  | 1, hu => simp [encM] at hu; rw [e1, hu]
  | 2, hu => simp [encM] at hu; rw [e2, hu]

/-- the mails that the law goes on with -/
def MG (ms : List Ml) : Prop := ms.length ≤ 1048576 ∧ ∀ m ∈ ms, m.text.size ≤ 1048576
theorem smM_len (ms : List Ml) (nl wl : List UInt8) : (smM ms nl wl).1.length ≤ 100 := by
  unfold smM
  split
  · simp
  · split
    · simp
    · split
      · simp
      · have := srchM_len ms nl wl
        show (srchM ms nl wl).length ≤ 100
        omega
def SMs (ns : List Int) (er : Int) (w : World) (e : Ending) (w' : World) : Prop := ∃ A c, e = .returned (.tuple #[.slice A ns.length c, .int .i64 er]) ∧ w'.ownsRow w.heap.size 3 1 (.slice A ns.length c) ns.length (ns.map iv) ∧ Below w.heap.size w w'
theorem sm_row {q : List Int × Int} {ns : List Int} {er : Int} (hq : q = (ns, er)) {w w' : World} {e : Ending} (h : SM q w e w') : SMs ns er w e w' := by
  subst hq
  obtain ⟨v, e1, e2, e3⟩ := h
  obtain ⟨A, c, rfl, _⟩ := own_form e2
  exact ⟨A, c, e1, e2, e3⟩
theorem toMl (A : Option Addr) (c : Nat) (xs : List Ml) (w : World) (hx : Rd w w.heap.size A (flat encM xs)) (hl : MG xs) :
    Calls Tryd.prog 20 #[.slice A xs.length c] w fun e w' => ∃ B d, e = .returned (.slice B xs.length d) ∧ w'.ownsRow w.heap.size 51 3 (.slice B xs.length d) xs.length (flat encM xs) ∧ Below w.heap.size w w' := by
  refine (toMailS_any A c xs w hx hl.1).mono fun e w' h => ?_
  obtain ⟨v, e1, e2, e3⟩ := h
  obtain ⟨B, d, rfl, _⟩ := own_form e2
  exact ⟨B, d, e1, e2, e3⟩
theorem specS {ms : List Ml} {nl wl : List UInt8} {ns : List Int} {er : Int} {b c : Nat} {B : Option Addr} {w : World} (hq : smM ms nl wl = (ns, er)) (hg : MG ms) (ho : w.ownsRow b 51 3 (.slice B ms.length c) ms.length (flat encM ms)) (hnl : nl.length ≤ 1048576) (hwl : wl.length ≤ 1048576) :
    Calls Tryd.prog 19 #[.slice B ms.length c, .string (bs nl), .string (bs wl)] w (SMs ns er w) :=
  (specSearchMails_any B c ms nl wl w (Rd.own ho) hg.1 hg.2 hnl hwl).mono fun _ _ h => sm_row hq h
theorem implS {ms : List Ml} {nl wl : List UInt8} {ns : List Int} {er : Int} {b c : Nat} {B : Option Addr} {w w' : World} (hq : smM ms nl wl = (ns, er)) (hm : ML w) (hb : Below w.heap.size w w') (hg : MG ms) (ho : w'.ownsRow b 51 3 (.slice B ms.length c) ms.length (flat encM ms)) (hnl : nl.length ≤ 1048576) (hwl : wl.length ≤ 1048576) :
    Calls Tryd.prog 21 #[.slice B ms.length c, .string (bs nl), .string (bs wl)] w' (SMs ns er w') :=
  (implSearchMails_any B c ms nl wl w' (Rd.own ho) (hm.below hb) hg.1 hg.2 hnl hwl).mono fun _ _ h => sm_row hq h
theorem eqI {ns : List Int} {b1 b2 c d : Nat} {A B : Option Addr} {w : World} (hx : w.ownsRow b1 3 1 (.slice A ns.length c) ns.length (ns.map iv)) (hy : w.ownsRow b2 3 1 (.slice B ns.length d) ns.length (ns.map iv)) (hl : ns.length ≤ 1048576) :
    Calls Tryd.prog 22 #[.slice A ns.length c, .slice B ns.length d] w fun e w' => e = .returned (.bool true) ∧ Below w.heap.size w w' := eqIntS_eq A B c d ns w (Rd.own hx) (Rd.own hy) hl
theorem eqMs {ms : List Ml} {b1 b2 c d : Nat} {A B : Option Addr} {w : World} (hx : w.ownsRow b1 51 3 (.slice A ms.length c) ms.length (flat encM ms)) (hy : w.ownsRow b2 51 3 (.slice B ms.length d) ms.length (flat encM ms)) (hg : MG ms) :
    Calls Tryd.prog 23 #[.slice A ms.length c, .slice B ms.length d] w fun e w' => e = .returned (.bool true) ∧ Below w.heap.size w w' := eqMailS_eq A B c d ms w (Rd.own hx) (Rd.own hy) hg.1
set_option maxRecDepth 100000 in
set_option maxHeartbeats 4000000 in
theorem law_any (A : Option Addr) (c : Nat) (ms : List Ml) (nl wl : List UInt8) (w : World) (hx : Rd w w.heap.size A (flat encM ms)) (hml : ML w) (hm : ms.length ≤ maxLen) (hg : ∀ m ∈ ms, m.text.size ≤ maxLen) (hnl : (bs nl).size ≤ maxLen) (hwl : (bs wl).size ≤ maxLen) :
    Calls Tryd.prog 6 #[.slice A ms.length c, .string (bs nl), .string (bs wl)] w fun e w' => e = .returned (.bool true) ∧ Below w.heap.size w w' := by
  rw [bs_size] at hnl hwl
  unfold maxLen at hnl hwl
  have hsn := bs_size nl
  have hsw := bs_size wl
  by_cases h1 : 1048576 < nl.length
  · go_enter Tryd.func6, Tryd.ntmps6
    go_wp2
    go_ret
    exact ⟨rfl, Below.refl _ _⟩
  by_cases h2 : 1048576 < wl.length
  · go_enter Tryd.func6, Tryd.ntmps6
    go_wp2
    go_ret
    exact ⟨rfl, Below.refl _ _⟩
  have HA := Lib.hid hx
  have HM := Lib.hid hml
  have HNL : Hid (nl.length ≤ 1048576) := by show _ ≤ _; omega
  have HWL : Hid (wl.length ≤ 1048576) := by show _ ≤ _; omega
  have HC := Lib.hid (szMailS_any A c ms 1048576 w hx hm (by omega) (by omega) hg)
  have hl : (smM ms nl wl).1.length ≤ 100 := smM_len ms nl wl
  generalize hq : smM ms nl wl = q at *
  obtain ⟨ns, er⟩ := q
  have HQ := Lib.hid hq
  have HL : Hid (ns.length ≤ 100) := hl
  clear hl hq hx hg hm hml
  go_enter Tryd.func6, Tryd.ntmps6
  go_wp2_with fail
  refine (HC.out).mono ?_
  rintro e w1 ⟨n1, rfl, hn1, hm1, hb1⟩
  have hZ1 : Below w.heap.size w w1 := below_after (Below.refl _ _) hb1
  have hs1 : w.heap.size ≤ w1.heap.size := hb1.size
  have HZ1 := Lib.hid hZ1
  have HB1 := Lib.hid hb1
  clear hZ1 hb1
  have HM1 := Lib.hid hm1
  clear hm1 HC
  by_cases h0 : n1 < 0
  · go_wp2_with fail
    go_ret
    exact ⟨rfl, HZ1.out⟩
  have HG : Hid (MG ms) := HM1.out (by omega)
  clear HM1
  go_wp2_with fail
  refine (toMl A c ms _ (HA.out.next HZ1.out) HG.out).mono ?_
  rintro e w2 ⟨B2, c2, rfl, ho2, hb2⟩
  have hZ2 : Below w.heap.size w w2 := below_after HZ1.out hb2
  have hs2 : w1.heap.size ≤ w2.heap.size := hb2.size
  have HZ2 := Lib.hid hZ2
  have HB2 := Lib.hid hb2
  clear hZ2 hb2
  have HOX0 := Lib.hid ho2
  have HIX0 : Hid (∀ k, (Value.slice B2 ms.length c2).ownBlock = some k → w1.heap.size ≤ k ∧ k < w2.heap.size) := fun k hk => HOX0.out.lt k hk
  clear ho2
  go_wp2_with fail
  refine (specS HQ.out HG.out HOX0.out HNL.out HWL.out).mono ?_
  rintro e w3 ⟨B3, c3, rfl, ho3, hb3⟩
  have hZ3 : Below w.heap.size w w3 := below_after HZ2.out hb3
  have hs3 : w2.heap.size ≤ w3.heap.size := hb3.size
  have HZ3 := Lib.hid hZ3
  have HB3 := Lib.hid hb3
  clear hZ3 hb3
  have HOS := Lib.hid ho3
  have HIS : Hid (∀ k, (Value.slice B3 ns.length c3).ownBlock = some k → w2.heap.size ≤ k ∧ k < w3.heap.size) := fun k hk => HOS.out.lt k hk
  clear ho3
  go_wp2_with fail
  refine (toMl A c ms _ (HA.out.next HZ3.out) HG.out).mono ?_
  rintro e w4 ⟨B4, c4, rfl, ho4, hb4⟩
  have hZ4 : Below w.heap.size w w4 := below_after HZ3.out hb4
  have hs4 : w3.heap.size ≤ w4.heap.size := hb4.size
  have HZ4 := Lib.hid hZ4
  have HB4 := Lib.hid hb4
  clear hZ4 hb4
  have HOX := Lib.hid ho4
  have HIX : Hid (∀ k, (Value.slice B4 ms.length c4).ownBlock = some k → w3.heap.size ≤ k ∧ k < w4.heap.size) := fun k hk => HOX.out.lt k hk
  clear ho4
  go_wp2_with fail
  refine (implS HQ.out HM.out HZ4.out HG.out HOX.out HNL.out HWL.out).mono ?_
  rintro e w5 ⟨B5, c5, rfl, ho5, hb5⟩
  have hZ5 : Below w.heap.size w w5 := below_after HZ4.out hb5
  have hs5 : w4.heap.size ≤ w5.heap.size := hb5.size
  have HZ5 := Lib.hid hZ5
  have HB5 := Lib.hid hb5
  clear hZ5 hb5
  have HOG := Lib.hid ho5
  have HIG : Hid (∀ k, (Value.slice B5 ns.length c5).ownBlock = some k → w4.heap.size ≤ k ∧ k < w5.heap.size) := fun k hk => HOG.out.lt k hk
  clear ho5
  go_wp2_with fail
  refine (eqI HOG.out (own_below (own_below HOS.out HB4.out) HB5.out) (by have := HL.out; omega)).mono ?_
  rintro e w6 ⟨rfl, hb6⟩
  have hZ6 : Below w.heap.size w w6 := below_after HZ5.out hb6
  have hs6 : w5.heap.size ≤ w6.heap.size := hb6.size
  have HZ6 := Lib.hid hZ6
  have HB6 := Lib.hid hb6
  clear hZ6 hb6
  go_wp2_with fail
  refine (toMl A c ms _ (HA.out.next HZ6.out) HG.out).mono ?_
  rintro e w7 ⟨B7, c7, rfl, ho7, hb7⟩
  have hZ7 : Below w.heap.size w w7 := below_after HZ6.out hb7
  have hs7 : w6.heap.size ≤ w7.heap.size := hb7.size
  have HZ7 := Lib.hid hZ7
  have HB7 := Lib.hid hb7
  clear hZ7 hb7
  have HOZ := Lib.hid ho7
  have HIZ : Hid (∀ k, (Value.slice B7 ms.length c7).ownBlock = some k → w6.heap.size ≤ k ∧ k < w7.heap.size) := fun k hk => HOZ.out.lt k hk
  clear ho7
  go_wp2_with fail
  refine (eqMs (own_below (own_below (own_below HOX.out HB5.out) HB6.out) HB7.out) HOZ.out HG.out).mono ?_
  rintro e w8 ⟨rfl, hb8⟩
  have hZ8 : Below w.heap.size w w8 := below_after HZ7.out hb8
  have hs8 : w7.heap.size ≤ w8.heap.size := hb8.size
  have HZ8 := Lib.hid hZ8
  have HB8 := Lib.hid hb8
  clear hZ8 hb8
  go_wp2_with fail
  refine (markMailS_any _ _ _ _ 1 _ (own_below (own_below (own_below (own_below HOX.out HB5.out) HB6.out) HB7.out) HB8.out) HG.out.1 (by omega) (by omega)).mono ?_
  rintro e w9 ⟨rfl, hb9⟩
  have hZ9 : Below w.heap.size w w9 := below_grown_own HZ8.out hb9 HIX.out (by omega)
  have hs9 : w8.heap.size ≤ w9.heap.size := hb9.size
  have HZ9 := Lib.hid hZ9
  have HB9 := Lib.hid hb9
  clear hZ9 hb9
  have hml9 := HG.out.1
  go_wp2_with fail
  refine (eqI ((own_below (own_below (own_below HOG.out HB6.out) HB7.out) HB8.out).kept HB9.out (ne_blocks HIG.out HIX.out (by omega))) ((own_below (own_below (own_below (own_below (own_below HOS.out HB4.out) HB5.out) HB6.out) HB7.out) HB8.out).kept HB9.out (ne_blocks HIS.out HIX.out (by omega))) (by have := HL.out; omega)).mono ?_
  rintro e w10 ⟨rfl, hb10⟩
  have hZ10 : Below w.heap.size w w10 := below_after HZ9.out hb10
  have hs10 : w9.heap.size ≤ w10.heap.size := hb10.size
  have HZ10 := Lib.hid hZ10
  have HB10 := Lib.hid hb10
  clear hZ10 hb10
  go_wp2_with fail
  refine (markIntS_any _ _ _ _ 1 _ (own_below ((own_below (own_below (own_below HOG.out HB6.out) HB7.out) HB8.out).kept HB9.out (ne_blocks HIG.out HIX.out (by omega))) HB10.out) (by have := HL.out; omega) (by omega) (by omega)).mono ?_
  rintro e w11 ⟨rfl, ⟨cs11, ho11, hm11⟩, hb11⟩
  have hZ11 : Below w.heap.size w w11 := below_grown_own HZ10.out hb11 HIG.out (by omega)
  have hs11 : w10.heap.size ≤ w11.heap.size := hb11.size
  have HZ11 := Lib.hid hZ11
  have HB11 := Lib.hid hb11
  clear hZ11 hb11
  have HK := Lib.hid hm11
  clear hm11
  have hln := HL.out
  have HOM := Lib.hid ho11
  clear ho11
  go_wp2_with fail
  refine (heldIntS_any _ _ _ _ 1 _ HOM.out HK.out (by have := HL.out; omega) (by omega) (by omega)).mono ?_
  rintro e w12 ⟨rfl, hb12⟩
  have hZ12 : Below w.heap.size w w12 := below_after HZ11.out hb12
  have hs12 : w11.heap.size ≤ w12.heap.size := hb12.size
  have HZ12 := Lib.hid hZ12
  have HB12 := Lib.hid hb12
  clear hZ12 hb12
  go_wp2_with fail
  refine (toMl A c ms _ (HA.out.next HZ12.out) HG.out).mono ?_
  rintro e w13 ⟨B13, c13, rfl, ho13, hb13⟩
  have hZ13 : Below w.heap.size w w13 := below_after HZ12.out hb13
  have hs13 : w12.heap.size ≤ w13.heap.size := hb13.size
  have HZ13 := Lib.hid hZ13
  have HB13 := Lib.hid hb13
  clear hZ13 hb13
  have HOU := Lib.hid ho13
  have HIU : Hid (∀ k, (Value.slice B13 ms.length c13).ownBlock = some k → w12.heap.size ≤ k ∧ k < w13.heap.size) := fun k hk => HOU.out.lt k hk
  clear ho13
  go_wp2_with fail
  refine (implS HQ.out HM.out HZ13.out HG.out HOU.out HNL.out HWL.out).mono ?_
  rintro e w14 ⟨B14, c14, rfl, ho14, hb14⟩
  have hZ14 : Below w.heap.size w w14 := below_after HZ13.out hb14
  have hs14 : w13.heap.size ≤ w14.heap.size := hb14.size
  have HZ14 := Lib.hid hZ14
  have HB14 := Lib.hid hb14
  clear hZ14 hb14
  have HOH := Lib.hid ho14
  have HIH : Hid (∀ k, (Value.slice B14 ns.length c14).ownBlock = some k → w13.heap.size ≤ k ∧ k < w14.heap.size) := fun k hk => HOH.out.lt k hk
  clear ho14
  go_wp2_with fail
  refine (eqI HOH.out (own_below (own_below (own_below ((own_below ((own_below (own_below (own_below (own_below (own_below HOS.out HB4.out) HB5.out) HB6.out) HB7.out) HB8.out).kept HB9.out (ne_blocks HIS.out HIX.out (by omega))) HB10.out).kept HB11.out (ne_blocks HIS.out HIG.out (by omega))) HB12.out) HB13.out) HB14.out) (by have := HL.out; omega)).mono ?_
  rintro e w15 ⟨rfl, hb15⟩
  have hZ15 : Below w.heap.size w w15 := below_after HZ14.out hb15
  have hs15 : w14.heap.size ≤ w15.heap.size := hb15.size
  have HZ15 := Lib.hid hZ15
  have HB15 := Lib.hid hb15
  clear hZ15 hb15
  go_wp2_with fail
  refine (heldIntS_any _ _ _ _ 1 _ (own_below (own_below (own_below (own_below HOM.out HB12.out) HB13.out) HB14.out) HB15.out) HK.out (by have := HL.out; omega) (by omega) (by omega)).mono ?_
  rintro e w16 ⟨rfl, hb16⟩
  have hZ16 : Below w.heap.size w w16 := below_after HZ15.out hb16
  have hs16 : w15.heap.size ≤ w16.heap.size := hb16.size
  have HZ16 := Lib.hid hZ16
  have HB16 := Lib.hid hb16
  clear hZ16 hb16
  go_wp2_with fail
  go_ret
  exact ⟨rfl, HZ16.out⟩

set_option maxRecDepth 100000 in
theorem lifted (os : Os) (started : os.Started) (H : Type) (enc : TypeId × Value → H) :
    ReturnsInHanded {} Tryd.checked os 6 .any (fun w args => (Rows.fnExactSearchMailsSpec.pre enc Tryd.prog Tryd.f6 Rows.fnExactSearchMailsRow.domain false w args ∧ laidMetH Tryd.prog DCard.laid w) ∧ sizedMet enc Tryd.prog Tryd.f6 (OpenSpec.ofChange Rows.fnExactSearchMailsSpec) false w args) (Rows.fnExactSearchMailsSpec.post enc Tryd.prog Tryd.f6 false true false false) := by
  refine DCard.returns_and_shaped (C := Tryd.checked) (X := fun w _ => laidMetH Tryd.prog DCard.laid w) (fun _ _ _ hh h => h.of_heap hh) Facts.own started (by kernel_rfl) Tryd.func6
    (ChangeSpec.witness_shaped (enc := enc) (C := Tryd.checked) (os := os) (X := fun w _ => laidMetH Tryd.prog DCard.laid w) false (World.laidAll Tryd.prog os DCard.laid) #[.slice none 0 0, .string ⟨#[]⟩, .string ⟨#[]⟩] 8 (World.laidAll_os _ _ _) (DCard.shaped os _) (by kernel_rfl) (by kernel_rfl) (by kernel_rfl) (DCard.met os _)) ?_
  intro W base args ds gs before hval0 hW hcnd hsz0 hL hsh _
  have hsz : (DataW.weightsEach Tryd.prog (Tryd.f6.params.toList ++ Rows.fnExactSearchMailsSpec.plain.varTypes Tryd.prog) (ds ++ gs)).all (· ≤ reachBytes) = true := hsz0
  have hval : ∀ (j : Nat) t v, Tryd.f6.params[j]? = some t → args[j]? = some v → Value.okWide Tryd.prog W .any base t v := hval0
  have hW' := hW
  obtain ⟨p, q, hA0, hV, rfl, hfz, hnd⟩ := hW
  have hA : DataW.TrodAll enc Tryd.prog W 0 (fun _ => true) true Tryd.f6.params.toList args.toList ds p := hA0
  rw [Tryd.params6] at hA hval hsz
  obtain ⟨rfl, rfl⟩ := trodVars_none hV
  have hltp : ∀ x ∈ p, x.block < W.heap.size := fun x hx => by simpa using hW'.lt x (by simp [hx])
  clear hA0 hval0 hsz0
  obtain ⟨v0, v1, v2, d0, d1, d2, p0, p1, p2, rfl, rfl, rfl, h0, h1, h2⟩ := trodAll_three hA
  obtain ⟨a0, len0, cap0, hv0⟩ := okWide_slice Tryd.underlying33 (hval 0 33 v0 rfl rfl)
  obtain ⟨s1, rfl, rfl, rfl, hs1⟩ := open_string Tryd.underlying9 (hval 1 9 v1 rfl rfl) h1
  obtain ⟨s2, rfl, rfl, rfl, hs2⟩ := open_string Tryd.underlying9 (hval 2 9 v2 rfl rfl) h2
  obtain ⟨nl, rfl⟩ : ∃ l, s1 = bs l := ⟨_, bs_eta' s1⟩
  obtain ⟨wl, rfl⟩ : ∃ l, s2 = bs l := ⟨_, bs_eta' s2⟩
  obtain ⟨fuel, hf⟩ := id h0
  rw [hv0] at hf
  obtain ⟨A, c, ms, hv, hx, hm, hg⟩ := open_mails hf
  obtain rfl : v0 = .slice A ms.length c := hv0.trans hv
  have hml : ML W := Go.Proofs.cell_of_shapedOpen_int (zero := #[.int .i64 0]) (t := 3) hsh (of_decide_eq_true (by kernel_rfl)) (by kernel_rfl) rfl (by kernel_rfl) (by kernel_rfl) Tryd.underlying3
  refine (law_any A c ms nl wl W hx hml hm hg hs1 hs2).mono fun e W' ⟨he, bel⟩ => ?_
  subst he
  exact ⟨_, rfl, _, _, _, [], _, [], hW', trodAll_mk1 (shut_bool Tryd.underlying4 _), trodAll_mk3 (Below.trod Facts.laidOut (by kernel_rfl) (of_decide_eq_true (by kernel_rfl)) h0 bel (fun x hx => hltp x (List.mem_append_left _ (List.mem_append_left _ hx)))) (Below.trod Facts.laidOut (by kernel_rfl) (of_decide_eq_true (by kernel_rfl)) h1 bel (fun x hx => hltp x (List.mem_append_left _ (List.mem_append_right _ hx)))) (Below.trod Facts.laidOut (by kernel_rfl) (of_decide_eq_true (by kernel_rfl)) h2 bel (fun x hx => hltp x (List.mem_append_right _ hx))), rfl, bel.frame _, fun h => by cases h⟩
theorem named_ : Tryd.pinned.checked.prog.funcNamed Rows.fnExactSearchMailsRow.func = some 6 := by kernel_rfl
set_option maxHeartbeats 8000000 in
theorem closed_ : joinedFacts Tryd.pinned.checked.prog 6 Tryd.f6 Rows.fnExactSearchMailsSpec Rows.fnExactSearchMailsRow = true := by
  unfold joinedFacts
  with_reducible repeat' (refine Facts.and_t ?_ ?_)
  all_goals first
    | with_reducible exact Facts.laidOut
    | with_reducible exact Facts.mapsRowed
    | with_reducible exact Facts.stopsHeard
    | with_reducible exact Facts.mayEnter
    | (rw [Facts.plainKeys]; as_aux_lemma => kernel_rfl)
    | (rw [Facts.lifts]; as_aux_lemma => kernel_rfl)
    | as_aux_lemma => kernel_rfl
theorem inst_ : Tryd.f6.isInstance Tryd.pinned.checked.prog Rows.fnExactSearchMailsRow.origin Rows.fnExactSearchMailsRow.targs := of_decide_eq_true (by kernel_rfl)
theorem wrap_ : Tryd.f6.isWrapper Tryd.pinned.checked.prog Rows.fnExactSearchMailsRow.wrapper Rows.fnExactSearchMailsRow.mainSum := by unfold Func.isWrapper; first | (rw [if_pos (by decide +kernel)]; kernel_rfl) | (rw [if_neg (by decide +kernel)]; exact ⟨rfl, rfl⟩)
theorem over : Rows.fnExactSearchMailsRow.holds Tryd.pinned (OpenSpec.ofChange Rows.fnExactSearchMailsSpec) :=
  OpenClaim.holds_of_wide 6 Tryd.f6 rfl rfl rfl rfl rfl rfl rfl ⟨rfl, rfl, rfl, rfl, rfl⟩ rfl rfl rfl rfl rfl named_ Tryd.func6 closed_ inst_ wrap_
    (fun os started H enc _ => lifted os started H enc)
theorem card : Rows.FnExactSearchMailsCardSaid :=
  Claim7.holds_tied_plain_at .later [] [.data, .pinned] true (true, "a97576e0b56365ea0bdacdac97cfea5fd0ecb66bc38648dfe16dd45acbe255d1") true over (fun _ h => by cases h) (by kernel_rfl) (fun _ h => by cases h) fnExactSearchMails_row_tie rfl ⟨rfl, rfl⟩ (by kernel_rfl) rfl
    (fun f fn hf hfn => by
      obtain rfl : f = 6 := Option.some.inj (named_.symm.trans hf) |>.symm
      obtain rfl : fn = Tryd.f6 := (Option.some.inj (Tryd.func6.symm.trans hfn)).symm
      exact ⟨by kernel_rfl, fun j t ht => by
        rw [Tryd.params6] at ht
        have hm : t ∈ [33, 9] := by simpa using Array.mem_of_getElem? ht
        have hall : ([33, 9].all fun u => !Tryd.prog.wantsStandIn u) = true := by kernel_rfl
        exact (show Tryd.prog.wantsStandIn t = false by simpa using List.all_eq_true.1 hall t hm)⟩)
    (by kernel_rfl)
#print axioms card
end Go.Proofs.YtlfnpnkpjdmonaaDoor.lawSearchMails
namespace Go.Proofs.YtlfnpnkpjdmonaaDoor
/-- The card, under a short name, for the claim. -/
theorem fnExactSearchMails_holds : Rows.FnExactSearchMailsCardSaid := lawSearchMails.card
end Go.Proofs.YtlfnpnkpjdmonaaDoor
