import Derived.Test.YtlfnpnkpjdmonaaReplay
set_option linter.unusedVariables false
set_option linter.unusedSimpArgs false
namespace Go.Proofs.Ytlfnpnkpjdmonaa
open Go.RowKit

/-! ### plain: two backups in a chain -/
theorem diffM_key (a b : List Pr) : ∀ d ∈ diffM a b, (∃ p ∈ a, p.1 = d.key) ∨ ∃ q ∈ b, q.1 = d.key := by
  refine two_ways (motive := fun a b => ∀ d ∈ diffM a b, (∃ p ∈ a, p.1 = d.key) ∨ ∃ q ∈ b, q.1 = d.key) ?_ ?_ ?_ ?_ ?_ ?_ a b
  · intro d hd; rw [diffM_nn] at hd; cases hd
  · intro p a ih d hd
    rw [diffM_cn, List.mem_cons] at hd
    rcases hd with rfl | hd
    · exact .inl ⟨p, List.mem_cons_self .., rfl⟩
    · exact (ih d hd).imp (fun ⟨x, hx, e⟩ => ⟨x, List.mem_cons_of_mem _ hx, e⟩) id
  · intro q b ih d hd
    rw [diffM_nc, List.mem_cons] at hd
    rcases hd with rfl | hd
    · exact .inr ⟨q, List.mem_cons_self .., rfl⟩
    · exact (ih d hd).imp id (fun ⟨x, hx, e⟩ => ⟨x, List.mem_cons_of_mem _ hx, e⟩)
  · intro p a q b h ih d hd
    rw [diffM_lt a b h, List.mem_cons] at hd
    rcases hd with rfl | hd
    · exact .inl ⟨p, List.mem_cons_self .., rfl⟩
    · exact (ih d hd).imp (fun ⟨x, hx, e⟩ => ⟨x, List.mem_cons_of_mem _ hx, e⟩) id
  · intro p a q b h ih d hd
    rw [diffM_gt a b h, List.mem_cons] at hd
    rcases hd with rfl | hd
    · exact .inr ⟨q, List.mem_cons_self .., rfl⟩
    · exact (ih d hd).imp id (fun ⟨x, hx, e⟩ => ⟨x, List.mem_cons_of_mem _ hx, e⟩)
  · intro p a q b h ih d hd
    by_cases hv : p.2 = q.2
    · rw [diffM_eq a b h hv] at hd
      exact (ih d hd).imp (fun ⟨x, hx, e⟩ => ⟨x, List.mem_cons_of_mem _ hx, e⟩) (fun ⟨x, hx, e⟩ => ⟨x, List.mem_cons_of_mem _ hx, e⟩)
    · rw [diffM_ne a b h hv, List.mem_cons] at hd
      rcases hd with rfl | hd
      · exact .inl ⟨p, List.mem_cons_self .., rfl⟩
      · exact (ih d hd).imp (fun ⟨x, hx, e⟩ => ⟨x, List.mem_cons_of_mem _ hx, e⟩) (fun ⟨x, hx, e⟩ => ⟨x, List.mem_cons_of_mem _ hx, e⟩)
def RiseD : List Df → Prop
  | [] => True
  | d :: l => (∀ e ∈ l, lt d.key e.key = true) ∧ RiseD l
theorem above_all {k : ByteArray} {a b : List Pr} (ha : ∀ p ∈ a, lt k p.1 = true) (hb : ∀ p ∈ b, lt k p.1 = true) : ∀ e ∈ diffM a b, lt k e.key = true := fun e he => by
  rcases diffM_key a b e he with ⟨p, hp, h⟩ | ⟨p, hp, h⟩
  · rw [← h]; exact ha p hp
  · rw [← h]; exact hb p hp
theorem diffM_rise (a b : List Pr) : Rise a → Rise b → RiseD (diffM a b) := by
  refine two_ways (motive := fun a b => Rise a → Rise b → RiseD (diffM a b)) ?_ ?_ ?_ ?_ ?_ ?_ a b
  · intro _ _; rw [diffM_nn]; trivial
  · intro p a ih h1 h2
    rw [diffM_cn]
    exact ⟨above_all h1.1 (fun p hp => by cases hp), ih h1.2 h2⟩
  · intro q b ih h1 h2
    rw [diffM_nc]
    exact ⟨above_all (fun p hp => by cases hp) h2.1, ih h1 h2.2⟩
  · intro p a q b h ih h1 h2
    rw [diffM_lt a b h]
    refine ⟨above_all h1.1 (fun x hx => ?_), ih h1.2 h2⟩
    rcases List.mem_cons.1 hx with rfl | hx
    · exact h
    · exact lt_trans h (h2.1 x hx)
  · intro p a q b h ih h1 h2
    rw [diffM_gt a b h]
    refine ⟨above_all (fun x hx => ?_) h2.1, ih h1 h2.2⟩
    rcases List.mem_cons.1 hx with rfl | hx
    · exact h
    · exact lt_trans h (h1.1 x hx)
  · intro p a q b h ih h1 h2
    by_cases hv : p.2 = q.2
    · rw [diffM_eq a b h hv]; exact ih h1.2 h2.2
    · rw [diffM_ne a b h hv]
      exact ⟨above_all h1.1 (fun x hx => by show lt p.1 x.1 = true; rw [h]; exact h2.1 x hx), ih h1.2 h2.2⟩
theorem riseD_at : ∀ {l : List Df}, RiseD l → ∀ i j (hi : i < l.length) (hj : j < l.length), i < j → lt l[i].key l[j].key = true
  | [], _, i, _, hi, _, _ => by simp at hi
  | d :: l, h, 0, j + 1, _, hj, _ => h.1 _ (List.getElem_mem (by simpa using hj))
  | d :: l, h, i + 1, j + 1, hi, hj, hij => by
    simp only [List.getElem_cons_succ]
    exact riseD_at h.2 i j _ _ (by omega)
  | d :: l, h, i + 1, 0, _, _, hij => by omega
  | d :: l, h, 0, 0, _, _, hij => by omega
theorem okDs_of {l : List Df} (h1 : ∀ d ∈ l, DOk d) (h2 : RiseD l) : okDs l = true :=
  okDs_true (k := l.length) (fun i hi _ => ⟨(dOk_iff _).2 (h1 _ (List.getElem_mem hi)), fun h0 => riseD_at h2 _ _ (by omega) hi (by omega)⟩) (Nat.le_refl _)
@[reducible] def sFirst : ByteArray := ⟨#[102, 105, 114, 115, 116]⟩
@[reducible] def sSecond : ByteArray := ⟨#[115, 101, 99, 111, 110, 100]⟩
@[reducible] def mk1 (a : List Pr) (D : Option Addr) (dc : Nat) : Bk := ⟨⟨#[]⟩, sFirst, 0, D, diffM [] a, dc, sumP a⟩
@[reducible] def mk2 (a b : List Pr) (ch : Int) (D : Option Addr) (dc : Nat) : Bk := ⟨sFirst, sSecond, ch, D, diffM a b, dc, sumP b⟩
noncomputable def link1 (a : List Pr) : Nat := linkM ⟨#[]⟩ sFirst 0 (diffM [] a) (sumP a)
theorem link1_lt (a : List Pr) : link1 a < 4294967296 := linkM_lt ..
theorem told_nil : Told [] := ⟨Nat.zero_le _, trivial, fun p hp => by cases hp⟩
theorem head1 : headB ⟨#[]⟩ sFirst 0 = true := by decide +kernel
theorem head2 {ch : Int} (h0 : 0 ≤ ch) (h1 : ch < 4294967296) : headB sFirst sSecond ch = true := by
  have e1 : shortA sFirst = true := by decide +kernel
  have e2 : shortA sSecond = true := by decide +kernel
  have e3 : withinB ch 0 4294967295 = true := by simp [withinB]; omega
  unfold headB
  rw [e1, e2, e3]
  rfl
theorem ok_of {f t : ByteArray} {ch : Int} {a b : List Pr} {D : Option Addr} {dc : Nat} (ha : Told a) (hb : Told b) (hh : headB f t ch = true) : Bk.ok ⟨f, t, ch, D, diffM a b, dc, sumP b⟩ = true := by
  have h1 := diffM_len a b
  have h2 := ha.len
  have h3 := hb.len
  have h4 := sumP_lt b
  simp only [Bk.ok, bkB]
  rw [hh, okDs_of (diffM_ok a b ha.fine hb.fine) (diffM_rise a b ha.rise hb.rise), decide_eq_true (by omega), show withinB (sumP b : Int) 0 4294967295 = true from by simp [withinB]; omega]
  rfl
theorem rep_of {f t : ByteArray} {ch : Int} {a b : List Pr} {D : Option Addr} {dc : Nat} (ha : Told a) (hb : Told b) : repR a f ch ⟨f, t, ch, D, diffM a b, dc, sumP b⟩ = (b, 0) := by
  have e : appR a (diffM a b) = (b, 0) := appR_some (apply_diff a b [] ha.rise hb.rise) hb.len
  unfold repR
  simp only [if_true, e]
/-- what the law asks of the two -/
structure RL (a b : List Pr) (m1 m2 m3 : Bk) : Prop where
  o1 : m1.ok = true
  o2 : m2.ok = true
  o3 : m3.ok = true
  r1 : repR [] ⟨#[]⟩ 0 m1 = (a, 0)
  r12 : repA [] ⟨#[]⟩ 0 [m1, m2] = (b, 0)
  r21 : repA [] ⟨#[]⟩ 0 [m2, m1] = ([], 13)
  r2 : repA [] ⟨#[]⟩ 0 [m2] = ([], 13)
  r13 : repA [] ⟨#[]⟩ 0 [m1, m3] = ([], 14)
theorem rl_of {a b : List Pr} (ha : Told a) (hb : Told b) (D E F : Option Addr) (dc ec fc : Nat) {c : Int} (hc0 : 0 ≤ c) (hc1 : c < 4294967296) (hc : c ≠ (link1 a : Int)) : RL a b (mk1 a D dc) (mk2 a b (link1 a : Int) E ec) (mk2 a b c F fc) := by
  have hl := link1_lt a
  have h1 : repR [] ⟨#[]⟩ 0 (mk1 a D dc) = (a, 0) := rep_of told_nil ha
  have e : (mk1 a D dc).link = link1 a := rfl
  have hne : sFirst ≠ ⟨#[]⟩ := by decide +kernel
  have h13 : ∀ ch E ec, repR [] ⟨#[]⟩ 0 (mk2 a b ch E ec) = ([], 13) := fun ch E ec => by
    unfold repR
    exact if_neg hne
  refine ⟨ok_of told_nil ha head1, ok_of ha hb (head2 (by omega) (by omega)), ok_of ha hb (head2 hc0 hc1), h1, ?_, ?_, ?_, ?_⟩
  · rw [repA, h1, if_pos rfl, e, repA, rep_of ha hb, if_pos rfl, repA]
  · rw [repA, h13]; rfl
  · rw [repA, h13]; rfl
  · rw [repA, h1, if_pos rfl, e, repA]
    have h14 : repR a sFirst (link1 a : Int) (mk2 a b c F fc) = (a, 14) := by
      unfold repR
      rw [if_pos rfl, if_neg hc]
    rw [show (mk1 a D dc).t = sFirst from rfl, h14]
    rfl
end Go.Proofs.Ytlfnpnkpjdmonaa
namespace Go.Proofs.Ytlfnpnkpjdmonaa
open Go.RowKit

theorem two_mem {α : Type} {P : α → Prop} {x y : α} (h1 : P x) (h2 : P y) : ∀ m ∈ [x, y], P m := fun m hm => by
  rcases List.mem_cons.1 hm with rfl | hm
  · exact h1
  · rw [List.mem_singleton.1 hm]; exact h2
theorem one_mem {α : Type} {P : α → Prop} {x : α} (h1 : P x) : ∀ m ∈ [x], P m := fun m hm => by rw [List.mem_singleton.1 hm]; exact h1
theorem xor_one_ne (L : Nat) : L ^^^ 1 ≠ L := fun h => by
  have h1 := congrArg (fun x => x.testBit 0) h
  simp at h1
  omega
/-- a backup in a box of its own -/
structure BoxBk (w : World) (g : Nat) (m : Bk) : Prop where
  at_ : w.heap[g]? = some (.cells #[.string m.f, .string m.t, .int .i64 m.ch, .slice m.D m.ds.length m.dc, .int .i64 m.sm] 86 (0, 0))
  rd : Rd w w.heap.size m.D (flat encD m.ds)
theorem BoxBk.next {w w' : World} {g : Nat} {m : Bk} (h : BoxBk w g m) (hb : Below w.heap.size w w') : BoxBk w' g m := ⟨(hb.block _ (Array.getElem?_eq_some_iff.1 h.at_).1).trans h.at_, h.rd.next hb⟩
theorem BoxBk.c0 {w : World} {g : Nat} {m : Bk} (h : BoxBk w g m) : w.cell? ⟨g, 0, none⟩ = some (.string m.f) := by rw [cell_of_row w _ 0 _ _ _ h.at_]; rfl
theorem BoxBk.c1 {w : World} {g : Nat} {m : Bk} (h : BoxBk w g m) : w.cell? ⟨g, 1, none⟩ = some (.string m.t) := by rw [cell_of_row w _ 1 _ _ _ h.at_]; rfl
theorem BoxBk.c2 {w : World} {g : Nat} {m : Bk} (h : BoxBk w g m) : w.cell? ⟨g, 2, none⟩ = some (.int .i64 m.ch) := by rw [cell_of_row w _ 2 _ _ _ h.at_]; rfl
theorem BoxBk.c3 {w : World} {g : Nat} {m : Bk} (h : BoxBk w g m) : w.cell? ⟨g, 3, none⟩ = some (.slice m.D m.ds.length m.dc) := by rw [cell_of_row w _ 3 _ _ _ h.at_]; rfl
theorem BoxBk.c4 {w : World} {g : Nat} {m : Bk} (h : BoxBk w g m) : w.cell? ⟨g, 4, none⟩ = some (.int .i64 m.sm) := by rw [cell_of_row w _ 4 _ _ _ h.at_]; rfl
def TailPost (L : Nat) (w : World) (e : Ending) (w' : World) : Prop := ∃ n g cap, e = .returned (.tuple #[.slice (some ⟨g, 0, none⟩) (n + 4) cap, .int .i64 0]) ∧ n ≤ 200000 ∧ g < w'.heap.size ∧ (∀ k u, (nb L 4)[k]? = some u → w'.cell? ⟨g, n + k, none⟩ = some (bv u)) ∧ Below w.heap.size w w'
theorem backupTail_any (m : Bk) (w : World) (hd : Rd w w.heap.size m.D (flat encD m.ds)) (hok : m.ok = true) :
    Calls Try.prog 66 #[bkV m.f m.t m.ch m.D m.ds.length m.dc m.sm] w (TailPost m.link w) := by
  refine (backupBytes_any m w hd hok).mono ?_
  rintro e w' ⟨g, cap, rfl, hr, hg, hb⟩
  obtain ⟨P, hP⟩ : ∃ P, m.bytes = P ++ nb m.link 4 := ⟨_, rfl⟩
  have hl : m.bytes.length = P.length + 4 := by rw [hP, List.length_append, nb_len]
  have hle : m.bytes.length ≤ 200000 := bytesB_len (Bk.ok_r hok).bkok
  rw [hl]
  have hne : m.bytes.map bv ≠ [] := by
    intro h
    have := congrArg List.length h
    rw [List.length_map] at this
    simp at this
    rw [this] at hl
    simp at hl
  obtain ⟨ad, e1, hlt, hc⟩ := hr hne
  injection e1 with e1
  subst e1
  refine ⟨P.length, g, cap, rfl, by omega, hlt, fun k u hk => ?_, hb⟩
  have h1 := hc (P.length + k) (bv u) (by rw [List.getElem?_map, hP, List.getElem?_append_right (by omega), Nat.add_sub_cancel_left, hk]; rfl)
  rw [← h1, addr_lit, Nat.zero_add]
set_option maxRecDepth 100000 in
set_option maxHeartbeats 4000000 in
theorem lawReplay_any (A B : Option Addr) (c d : Nat) (xs ys : List UInt8) (w : World) (hx : Rd w w.heap.size A (xs.map bv)) (hy : Rd w w.heap.size B (ys.map bv)) (hm : xs.length ≤ maxLen) (hm' : ys.length ≤ maxLen) :
    Calls Try.prog 16 #[.slice A xs.length c, .slice B ys.length d] w fun e w' => e = .returned (.bool true) ∧ Below w.heap.size w w' := by
  unfold maxLen at hm hm'
  by_cases hbig : 1048576 < xs.length
  · go_enter Try.func16, Try.ntmps16
    go_wp2
    go_ret
    exact ⟨rfl, Below.refl _ _⟩
  · by_cases hbig2 : 1048576 < ys.length
    · go_enter Try.func16, Try.ntmps16
      go_wp2
      go_ret
      exact ⟨rfl, Below.refl _ _⟩
    · have HX := Lib.hid hx
      have HY := Lib.hid hy
      clear hx hy
      go_enter Try.func16, Try.ntmps16
      go_wp2_with fail
      refine (pairsOf_any A c xs _ HX.out (by omega)).mono ?_
      rintro e w1 ⟨q, qc, a, rfl, hdr, ho, hb1⟩
      have hq : a.length ≤ qc := by
        obtain ⟨_, _, e, h⟩ := own_form ho
        cases e
        exact h
      have hal : a.length ≤ 60 := hdr.told.len
      have HA1 := Lib.hid (Rd.own ho)
      have HTA := Lib.hid hdr.told
      have HB1 := Lib.hid hb1
      have HY1 := Lib.hid (HY.out.next hb1)
      clear ho hdr hb1 HX HY
      go_wp2_with fail
      refine (pairsOf_any B d ys _ HY1.out (by omega)).mono ?_
      rintro e w2 ⟨r, rc, b, rfl, hdr, ho, hb2⟩
      have hr : b.length ≤ rc := by
        obtain ⟨_, _, e, h⟩ := own_form ho
        cases e
        exact h
      have hbl : b.length ≤ 60 := hdr.told.len
      have HX2 := Lib.hid (HA1.out.next hb2)
      have HY2 := Lib.hid (Rd.own ho)
      have HTB := Lib.hid hdr.told
      have HB2 := Lib.hid (below_after HB1.out hb2)
      have hba2 : Below w2.heap.size w2 (w2.alloc (.cells #[] 82)) := by repeat (first | exact Below.refl _ _ | assumption | refine Below.drew ?_ | refine below_drewN ?_ _ | refine Below.setCell ?_ (by first | exact Nat.le_refl _ | exact Below.size (by assumption) | (simp; done) | (simp; omega) | omega) _ | refine Below.alloc ?_ (by first | exact Nat.le_refl _ | exact Below.size (by assumption) | (simp; done) | (simp; omega) | omega) _)
      have HBA2 := Lib.hid hba2
      have HL1 := Lib.hid (link1_lt a)
      clear ho hdr hb2 HA1 HY1 HB1 hba2
      go_wp2_with fail
      refine (implMakeBackup_any ⟨#[]⟩ sFirst 0 _ _ 0 qc [] a _ (Rd.nil _ _ _) (HX2.out.next HBA2.out) told_nil HTA.out (Nat.zero_le _) hq head1 (fun _ => Nat.zero_le _)).mono ?_
      rintro e w3 ⟨D, dc, rfl, ho3, hb3⟩
      have HD3 := Lib.hid (Rd.own ho3)
      have HBX3 := Lib.hid (below_after HBA2.out hb3)
      have HX3 := Lib.hid (HX2.out.next HBX3.out)
      have HY3 := Lib.hid (HY2.out.next HBX3.out)
      have HB3 := Lib.hid (below_after HB2.out HBX3.out)
      have hM1 : BoxBk (w3.alloc (.cells #[.string ⟨#[]⟩, .string sFirst, .int .i64 0, .slice D (diffM [] a).length dc, .int .i64 (sumP a)] 86)) w3.heap.size (mk1 a D dc) := ⟨heap_alloc_new _ _, HD3.out.next (by repeat (first | exact Below.refl _ _ | assumption | refine Below.drew ?_ | refine below_drewN ?_ _ | refine Below.setCell ?_ (by first | exact Nat.le_refl _ | exact Below.size (by assumption) | (simp; done) | (simp; omega) | omega) _ | refine Below.alloc ?_ (by first | exact Nat.le_refl _ | exact Below.size (by assumption) | (simp; done) | (simp; omega) | omega) _))⟩
      have hb3a : Below w3.heap.size w3 ((w3.alloc (.cells #[.string ⟨#[]⟩, .string sFirst, .int .i64 0, .slice D (diffM [] a).length dc, .int .i64 (sumP a)] 86)).alloc (.cells #[] 82)) := by repeat (first | exact Below.refl _ _ | assumption | refine Below.drew ?_ | refine below_drewN ?_ _ | refine Below.setCell ?_ (by first | exact Nat.le_refl _ | exact Below.size (by assumption) | (simp; done) | (simp; omega) | omega) _ | refine Below.alloc ?_ (by first | exact Nat.le_refl _ | exact Below.size (by assumption) | (simp; done) | (simp; omega) | omega) _)
      have hM1' := hM1.next (show Below _ _ ((w3.alloc (.cells #[.string ⟨#[]⟩, .string sFirst, .int .i64 0, .slice D (diffM [] a).length dc, .int .i64 (sumP a)] 86)).alloc (.cells #[] 82)) by repeat (first | exact Below.refl _ _ | assumption | refine Below.drew ?_ | refine below_drewN ?_ _ | refine Below.setCell ?_ (by first | exact Nat.le_refl _ | exact Below.size (by assumption) | (simp; done) | (simp; omega) | omega) _ | refine Below.alloc ?_ (by first | exact Nat.le_refl _ | exact Below.size (by assumption) | (simp; done) | (simp; omega) | omega) _))
      have HM1 := Lib.hid hM1'
      have HB3A := Lib.hid hb3a
      have HO1 := Lib.hid (ok_of told_nil HTA.out head1 (D := D) (dc := dc))
      clear ho3 hb3 HX2 HY2 HB2 HBX3 HBA2 hM1 hb3a hM1'
      go_wp2_with fail
      refine (implReplay_any _ 0 [] ⟨#[]⟩ 0 (mk1 a D dc) _ (Rd.nil _ _ _) HM1.out.rd told_nil HO1.out (fun h => by cases h) (by decide)).mono ?_
      rw [show repR [] ⟨#[]⟩ 0 (mk1 a D dc) = (a, 0) from rep_of told_nil HTA.out]
      rintro e w4 ⟨v4, rfl, ho4, hb4⟩
      obtain ⟨F, fc, rfl, _⟩ := own_form2 (l := a) ho4
      have HF4 := Lib.hid (Rd.own (show w4.ownsRow _ 82 2 (.slice F a.length fc) a.length (flat encP a) from ho4))
      have HBX4 := Lib.hid (below_after HB3A.out hb4)
      have hM4 := HM1.out.next hb4
      have HX4 := Lib.hid (HX3.out.next HBX4.out)
      have HY4 := Lib.hid (HY3.out.next HBX4.out)
      have HB4 := Lib.hid (below_after HB3.out HBX4.out)
      have c0 := hM4.c0
      have c1 := hM4.c1
      have c2 := hM4.c2
      have c3 := hM4.c3
      have c4 := hM4.c4
      have HM4 := Lib.hid hM4
      clear ho4 hb4 HX3 HY3 HB3 HBX4 HB3A HM1 hM4
      go_wp2_with fail
      refine (backupTail_any (mk1 a D dc) _ HM4.out.rd HO1.out).mono ?_
      rw [show (mk1 a D dc).link = link1 a from rfl]
      rintro e w5 ⟨n, g5, cap5, rfl, hn5, hg5, hc5, hb5⟩
      have HC5 := Lib.hid hc5
      have HM5 := Lib.hid (HM4.out.next hb5)
      have HF5 := Lib.hid (HF4.out.next hb5)
      have HX5 := Lib.hid (HX4.out.next hb5)
      have HY5 := Lib.hid (HY4.out.next hb5)
      have HB5 := Lib.hid (below_after HB4.out hb5)
      clear hc5 hb5 HX4 HY4 HB4 HM4 HF4 c0 c1 c2 c3 c4
      go_wp2_with fail
      refine (samePairs_any F _ fc qc a a _ HF5.out HX5.out (by simp only [maxLen]; omega) (by simp only [maxLen]; omega)).mono ?_
      rw [show decide (a = a) = true from by simp]
      rintro e w6 ⟨rfl, n6, hw6⟩
      have hb6 : Below w5.heap.size w5 w6 := by rw [hw6]; exact below_drewN (Below.refl _ _) n6
      have HM6 := Lib.hid (HM5.out.next hb6)
      have HX6 := Lib.hid (HX5.out.next hb6)
      have HY6 := Lib.hid (HY5.out.next hb6)
      have HC6 : Hid (∀ k u, (nb (link1 a) 4)[k]? = some u → w6.cell? ⟨g5, n + k, none⟩ = some (bv u)) := fun k u hk => (hb6.cell (p := ⟨g5, n + k, none⟩) hg5).trans (HC5.out k u hk)
      have HB6 := Lib.hid (below_after HB5.out hb6)
      clear hw6 hb6 HX5 HY5 HB5 HM5 HF5 HC5 hg5
      go_wp2_with fail
      go_loop [13, 14] (fun cv iv => ∃ k : Nat, k ≤ 4 ∧ iv = .int .i64 (n + k : Nat) ∧ cv = .int .i64 (be ((nb (link1 a) 4).take k))) (fun _ iv => n + 4 - (intOf iv).toNat)
      case atStart => exact ⟨0, by omega, by go_num, rfl⟩
      case round =>
        obtain ⟨k, hk, rfl, rfl⟩ := hrel
        by_cases hlt : k < 4
        · obtain ⟨u, hu⟩ : ∃ u, (nb (link1 a) 4)[k]? = some u := ⟨_, List.getElem?_eq_getElem (by rw [nb_len]; exact hlt)⟩
          have hcell := HC6.out k u hu
          have HBE : Hid (be ((nb (link1 a) 4).take (k + 1)) = be ((nb (link1 a) 4).take k) * 256 + u.toNat) := by
            show _ = _
            rw [List.take_add_one, hu, Option.toList_some, be_snoc]
          have hbb : be ((nb (link1 a) 4).take k) < 16777216 := be_take_lt _ k (by rw [nb_len]; exact Nat.le_refl _) (by rw [nb_len]; exact hlt)
          obtain ⟨x, hx⟩ : ∃ x, x = be ((nb (link1 a) 4).take k) := ⟨_, rfl⟩
          rw [← hx] at HBE hbb ⊢
          have hu2 := u.toNat_lt
          clear hx hu
          go_wp2_with fail
          go_round
          case rel => exact ⟨k + 1, by omega, by go_num, by rw [HBE.out]; go_num⟩
          case measure => simp [intOf]; omega
        · obtain rfl : k = 4 := by omega
          have HBE : Hid (be ((nb (link1 a) 4).take 4) = link1 a) := by
            show _ = _
            rw [List.take_of_length_le (by rw [nb_len]; exact Nat.le_refl _), be_nb]
            exact Nat.mod_eq_of_lt (link1_lt a)
          rw [HBE.out]
          have HBA6 := Lib.hid (below_after HB6.out (Below.refl w6.heap.size w6))
          clear HC6 HBE
          go_wp2_with fail
          refine (implMakeBackup_any sFirst sSecond (link1 a : Int) _ _ qc rc a b _ HX6.out HY6.out HTA.out HTB.out hq hr (head2 (by omega) (by have := HL1.out; omega)) (fun h => absurd h (by decide +kernel))).mono ?_
          rintro e w7 ⟨E, ec, rfl, ho7, hb7⟩
          have HE7 := Lib.hid (Rd.own ho7)
          have HM7 := Lib.hid (HM6.out.next hb7)
          have HY7 := Lib.hid (HY6.out.next hb7)
          have HB7 := Lib.hid (below_after HB6.out hb7)
          have hlz := HL1.out
          obtain ⟨L, hL⟩ : ∃ L, L = link1 a := ⟨_, rfl⟩
          have hx1 : L ^^^ 1 < 2 ^ 32 := Nat.xor_lt_two_pow (by rw [hL]; omega) (by decide)
          have hx2 := xor_one_ne L
          have HRL := Lib.hid (rl_of HTA.out HTB.out D E E dc ec ec (c := ((L ^^^ 1 : Nat) : Int)) (by omega) (by omega) (by rw [← hL]; omega))
          clear hx1 hx2
          rw [← hL] at HRL hlz ⊢
          have HLL := Lib.hid hL
          clear ho7 hb7 HM6 HX6 HY6 HB6 HBA6 HL1 hL
          have hM2 : BoxBk (w7.alloc (.cells #[.string sFirst, .string sSecond, .int .i64 L, .slice E (diffM a b).length ec, .int .i64 (sumP b)] 86)) w7.heap.size (mk2 a b L E ec) := ⟨heap_alloc_new _ _, HE7.out.next (by repeat (first | exact Below.refl _ _ | assumption | refine Below.drew ?_ | refine below_drewN ?_ _ | refine Below.setCell ?_ (by first | exact Nat.le_refl _ | exact Below.size (by assumption) | (simp; done) | (simp; omega) | omega) _ | refine Below.alloc ?_ (by first | exact Nat.le_refl _ | exact Below.size (by assumption) | (simp; done) | (simp; omega) | omega) _))⟩
          have hM1 := HM7.out.next (show Below w7.heap.size w7 (w7.alloc (.cells #[.string sFirst, .string sSecond, .int .i64 L, .slice E (diffM a b).length ec, .int .i64 (sumP b)] 86)) by repeat (first | exact Below.refl _ _ | assumption | refine Below.drew ?_ | refine below_drewN ?_ _ | refine Below.setCell ?_ (by first | exact Nat.le_refl _ | exact Below.size (by assumption) | (simp; done) | (simp; omega) | omega) _ | refine Below.alloc ?_ (by first | exact Nat.le_refl _ | exact Below.size (by assumption) | (simp; done) | (simp; omega) | omega) _))
          have HM1 := Lib.hid hM1
          have HM2 := Lib.hid hM2
          have c0 := hM1.c0
          have c1 := hM1.c1
          have c2 := hM1.c2
          have c3 := hM1.c3
          have c4 := hM1.c4
          have HB8 : Hid (Below w.heap.size w (w7.alloc (.cells #[.string sFirst, .string sSecond, .int .i64 L, .slice E (diffM a b).length ec, .int .i64 (sumP b)] 86))) := below_after HB7.out (by repeat (first | exact Below.refl _ _ | assumption | refine Below.drew ?_ | refine below_drewN ?_ _ | refine Below.setCell ?_ (by first | exact Nat.le_refl _ | exact Below.size (by assumption) | (simp; done) | (simp; omega) | omega) _ | refine Below.alloc ?_ (by first | exact Nat.le_refl _ | exact Below.size (by assumption) | (simp; done) | (simp; omega) | omega) _))
          have HY8 := Lib.hid (HY7.out.next (show Below w7.heap.size w7 (w7.alloc (.cells #[.string sFirst, .string sSecond, .int .i64 L, .slice E (diffM a b).length ec, .int .i64 (sumP b)] 86)) by repeat (first | exact Below.refl _ _ | assumption | refine Below.drew ?_ | refine below_drewN ?_ _ | refine Below.setCell ?_ (by first | exact Nat.le_refl _ | exact Below.size (by assumption) | (simp; done) | (simp; omega) | omega) _ | refine Below.alloc ?_ (by first | exact Nat.le_refl _ | exact Below.size (by assumption) | (simp; done) | (simp; omega) | omega) _)))
          clear hM1 hM2 HM7 HE7 HY7
          go_wp2_with fail
          refine (implReplayAll_any (some ⟨w7.heap.size + 1, 0, none⟩) 2 [mk1 a D dc, mk2 a b L E ec] _ (by exact rd_alloc _ _ _ _ _ (by simp) rfl) (by exact two_mem (HM1.out.next (show Below _ _ _ by repeat (first | exact Below.refl _ _ | assumption | refine Below.drew ?_ | refine below_drewN ?_ _ | refine Below.setCell ?_ (by first | exact Nat.le_refl _ | exact Below.size (by assumption) | (simp; done) | (simp; omega) | omega) _ | refine Below.alloc ?_ (by first | exact Nat.le_refl _ | exact Below.size (by assumption) | (simp; done) | (simp; omega) | omega) _))).rd (HM2.out.next (show Below _ _ _ by repeat (first | exact Below.refl _ _ | assumption | refine Below.drew ?_ | refine below_drewN ?_ _ | refine Below.setCell ?_ (by first | exact Nat.le_refl _ | exact Below.size (by assumption) | (simp; done) | (simp; omega) | omega) _ | refine Below.alloc ?_ (by first | exact Nat.le_refl _ | exact Below.size (by assumption) | (simp; done) | (simp; omega) | omega) _))).rd) (two_mem HRL.out.o1 HRL.out.o2) (show 2 ≤ 20 by decide)).mono ?_
          rw [HRL.out.r12]
          rintro e w8 ⟨v8, rfl, ho8, hb8⟩
          obtain ⟨G, gc, rfl, _⟩ := own_form2 (l := b) ho8
          have HG8 := Lib.hid (Rd.own (show w8.ownsRow _ 82 2 (.slice G b.length gc) b.length (flat encP b) from ho8))
          have HBX8 := Lib.hid (Below.trans (show Below (w7.heap.size + 1) (w7.alloc (.cells #[.string sFirst, .string sSecond, .int .i64 L, .slice E (diffM a b).length ec, .int .i64 (sumP b)] 86)) _ by repeat (first | exact Below.refl _ _ | assumption | refine Below.drew ?_ | refine below_drewN ?_ _ | refine Below.setCell ?_ (by first | exact Nat.le_refl _ | exact Below.size (by assumption) | (simp; done) | (simp; omega) | omega) _ | refine Below.alloc ?_ (by first | exact Nat.le_refl _ | exact Below.size (by assumption) | (simp; done) | (simp; omega) | omega) _)) (hb8.mono (by simp)))
          have hM1 := HM1.out.next (w' := w8) (by have := HBX8.out; rwa [show w7.heap.size + 1 = (w7.alloc (.cells #[.string sFirst, .string sSecond, .int .i64 L, .slice E (diffM a b).length ec, .int .i64 (sumP b)] 86)).heap.size from by simp] at this)
          have hM2 := HM2.out.next (w' := w8) (by have := HBX8.out; rwa [show w7.heap.size + 1 = (w7.alloc (.cells #[.string sFirst, .string sSecond, .int .i64 L, .slice E (diffM a b).length ec, .int .i64 (sumP b)] 86)).heap.size from by simp] at this)
          have hbx : Below (w7.alloc (.cells #[.string sFirst, .string sSecond, .int .i64 L, .slice E (diffM a b).length ec, .int .i64 (sumP b)] 86)).heap.size (w7.alloc (.cells #[.string sFirst, .string sSecond, .int .i64 L, .slice E (diffM a b).length ec, .int .i64 (sumP b)] 86)) w8 := by have := HBX8.out; rwa [show w7.heap.size + 1 = (w7.alloc (.cells #[.string sFirst, .string sSecond, .int .i64 L, .slice E (diffM a b).length ec, .int .i64 (sumP b)] 86)).heap.size from by simp] at this
          have HY9 := Lib.hid (HY8.out.next hbx)
          have HB9 := Lib.hid (below_after HB8.out hbx)
          clear ho8 hb8 HBX8 hbx c0 c1 c2 c3 c4 HY8 HB8 HM1 HM2
          have c0 := hM1.c0
          have c1 := hM1.c1
          have c2 := hM1.c2
          have c3 := hM1.c3
          have c4 := hM1.c4
          have d0 := hM2.c0
          have d1 := hM2.c1
          have d2 := hM2.c2
          have d3 := hM2.c3
          have d4 := hM2.c4
          have HM1 := Lib.hid hM1
          have HM2 := Lib.hid hM2
          clear hM1 hM2
          go_wp2_with fail
          refine (implReplayAll_any (some ⟨w8.heap.size, 0, none⟩) 2 [mk2 a b L E ec, mk1 a D dc] _ (by exact rd_alloc _ _ _ _ _ rfl rfl) (by exact two_mem (HM2.out.next (show Below _ _ _ by repeat (first | exact Below.refl _ _ | assumption | refine Below.drew ?_ | refine below_drewN ?_ _ | refine Below.setCell ?_ (by first | exact Nat.le_refl _ | exact Below.size (by assumption) | (simp; done) | (simp; omega) | omega) _ | refine Below.alloc ?_ (by first | exact Nat.le_refl _ | exact Below.size (by assumption) | (simp; done) | (simp; omega) | omega) _))).rd (HM1.out.next (show Below _ _ _ by repeat (first | exact Below.refl _ _ | assumption | refine Below.drew ?_ | refine below_drewN ?_ _ | refine Below.setCell ?_ (by first | exact Nat.le_refl _ | exact Below.size (by assumption) | (simp; done) | (simp; omega) | omega) _ | refine Below.alloc ?_ (by first | exact Nat.le_refl _ | exact Below.size (by assumption) | (simp; done) | (simp; omega) | omega) _))).rd) (two_mem HRL.out.o2 HRL.out.o1) (show 2 ≤ 20 by decide)).mono ?_
          rw [HRL.out.r21]
          rintro e w9 ⟨v9, rfl, _, hb9⟩
          have hbx : Below w8.heap.size w8 w9 := Below.trans (show Below w8.heap.size w8 _ by repeat (first | exact Below.refl _ _ | assumption | refine Below.drew ?_ | refine below_drewN ?_ _ | refine Below.setCell ?_ (by first | exact Nat.le_refl _ | exact Below.size (by assumption) | (simp; done) | (simp; omega) | omega) _ | refine Below.alloc ?_ (by first | exact Nat.le_refl _ | exact Below.size (by assumption) | (simp; done) | (simp; omega) | omega) _)) (hb9.mono (by simp))
          have HG9 := Lib.hid (HG8.out.next hbx)
          have HY10 := Lib.hid (HY9.out.next hbx)
          have HB10 := Lib.hid (below_after HB9.out hbx)
          have hM1 := HM1.out.next hbx
          have hM2 := HM2.out.next hbx
          clear hb9 hbx HG8 HY9 HB9 HM1 HM2 c0 c1 c2 c3 c4 d0 d1 d2 d3 d4
          have d0 := hM2.c0
          have d1 := hM2.c1
          have d2 := hM2.c2
          have d3 := hM2.c3
          have d4 := hM2.c4
          have HM1 := Lib.hid hM1
          have HM2 := Lib.hid hM2
          clear hM1 hM2
          go_wp2_with fail
          refine (implReplayAll_any (some ⟨w9.heap.size, 0, none⟩) 1 [mk2 a b L E ec] _ (by exact rd_alloc _ _ _ _ _ rfl rfl) (by exact one_mem (HM2.out.next (show Below _ _ _ by repeat (first | exact Below.refl _ _ | assumption | refine Below.drew ?_ | refine below_drewN ?_ _ | refine Below.setCell ?_ (by first | exact Nat.le_refl _ | exact Below.size (by assumption) | (simp; done) | (simp; omega) | omega) _ | refine Below.alloc ?_ (by first | exact Nat.le_refl _ | exact Below.size (by assumption) | (simp; done) | (simp; omega) | omega) _))).rd) (one_mem HRL.out.o2) (show 1 ≤ 20 by decide)).mono ?_
          rw [HRL.out.r2]
          rintro e w10 ⟨v10, rfl, _, hb10⟩
          have hbx : Below w9.heap.size w9 w10 := Below.trans (show Below w9.heap.size w9 _ by repeat (first | exact Below.refl _ _ | assumption | refine Below.drew ?_ | refine below_drewN ?_ _ | refine Below.setCell ?_ (by first | exact Nat.le_refl _ | exact Below.size (by assumption) | (simp; done) | (simp; omega) | omega) _ | refine Below.alloc ?_ (by first | exact Nat.le_refl _ | exact Below.size (by assumption) | (simp; done) | (simp; omega) | omega) _)) (hb10.mono (by simp))
          have HG10 := Lib.hid (HG9.out.next hbx)
          have HY11 := Lib.hid (HY10.out.next hbx)
          have HB11 := Lib.hid (below_after HB10.out hbx)
          have hM1 := HM1.out.next hbx
          have hM2 := HM2.out.next hbx
          clear hb10 hbx HG9 HY10 HB10 HM1 HM2 d0 d1 d2 d3 d4
          have d0 := hM2.c0
          have d1 := hM2.c1
          have d2 := hM2.c2
          have d3 := hM2.c3
          have d4 := hM2.c4
          have hxor : bits .xor .i64 (L : Int) 1 = ((L ^^^ 1 : Nat) : Int) := bits_xor_i64 L 1 (by omega) (by omega)
          have hbx : Below w10.heap.size w10 (w10.alloc (.cells #[.string sFirst, .string sSecond, .int .i64 ((L ^^^ 1 : Nat) : Int), .slice E (diffM a b).length ec, .int .i64 (sumP b)] 86)) := by repeat (first | exact Below.refl _ _ | assumption | refine Below.drew ?_ | refine below_drewN ?_ _ | refine Below.setCell ?_ (by first | exact Nat.le_refl _ | exact Below.size (by assumption) | (simp; done) | (simp; omega) | omega) _ | refine Below.alloc ?_ (by first | exact Nat.le_refl _ | exact Below.size (by assumption) | (simp; done) | (simp; omega) | omega) _)
          have hM3 : BoxBk (w10.alloc (.cells #[.string sFirst, .string sSecond, .int .i64 ((L ^^^ 1 : Nat) : Int), .slice E (diffM a b).length ec, .int .i64 (sumP b)] 86)) w10.heap.size (mk2 a b ((L ^^^ 1 : Nat) : Int) E ec) := ⟨heap_alloc_new w10 _, hM2.rd.next hbx⟩
          have hM1' := hM1.next hbx
          have e0 := hM1'.c0
          have e1 := hM1'.c1
          have e2 := hM1'.c2
          have e3 := hM1'.c3
          have e4 := hM1'.c4
          have f0 := hM3.c0
          have f1 := hM3.c1
          have f2 := hM3.c2
          have f3 := hM3.c3
          have f4 := hM3.c4
          have HM1 := Lib.hid hM1'
          have HM2 := Lib.hid (hM2.next hbx)
          have HM3 := Lib.hid hM3
          have HG11 := Lib.hid (HG10.out.next hbx)
          have HY12 := Lib.hid (HY11.out.next hbx)
          have HB12 := Lib.hid (below_after HB11.out hbx)
          clear hM1 hM2 hM3 hM1' hbx HG10 HY11 HB11
          go_wp2_with fail
          refine (implReplayAll_any (some ⟨w10.heap.size + 1, 0, none⟩) 2 [mk1 a D dc, mk2 a b ((L ^^^ 1 : Nat) : Int) E ec] _ (by exact rd_alloc _ _ _ _ _ (by simp) rfl) (by exact two_mem (HM1.out.next (show Below _ _ _ by repeat (first | exact Below.refl _ _ | assumption | refine Below.drew ?_ | refine below_drewN ?_ _ | refine Below.setCell ?_ (by first | exact Nat.le_refl _ | exact Below.size (by assumption) | (simp; done) | (simp; omega) | omega) _ | refine Below.alloc ?_ (by first | exact Nat.le_refl _ | exact Below.size (by assumption) | (simp; done) | (simp; omega) | omega) _))).rd (HM3.out.next (show Below _ _ _ by repeat (first | exact Below.refl _ _ | assumption | refine Below.drew ?_ | refine below_drewN ?_ _ | refine Below.setCell ?_ (by first | exact Nat.le_refl _ | exact Below.size (by assumption) | (simp; done) | (simp; omega) | omega) _ | refine Below.alloc ?_ (by first | exact Nat.le_refl _ | exact Below.size (by assumption) | (simp; done) | (simp; omega) | omega) _))).rd) (two_mem HRL.out.o1 HRL.out.o3) (show 2 ≤ 20 by decide)).mono ?_
          rw [HRL.out.r13]
          rintro e w11 ⟨v11, rfl, _, hb11⟩
          have hbx : Below (w10.alloc (.cells #[.string sFirst, .string sSecond, .int .i64 ((L ^^^ 1 : Nat) : Int), .slice E (diffM a b).length ec, .int .i64 (sumP b)] 86)).heap.size (w10.alloc (.cells #[.string sFirst, .string sSecond, .int .i64 ((L ^^^ 1 : Nat) : Int), .slice E (diffM a b).length ec, .int .i64 (sumP b)] 86)) w11 := Below.trans (show Below (w10.alloc (.cells #[.string sFirst, .string sSecond, .int .i64 ((L ^^^ 1 : Nat) : Int), .slice E (diffM a b).length ec, .int .i64 (sumP b)] 86)).heap.size (w10.alloc (.cells #[.string sFirst, .string sSecond, .int .i64 ((L ^^^ 1 : Nat) : Int), .slice E (diffM a b).length ec, .int .i64 (sumP b)] 86)) _ by repeat (first | exact Below.refl _ _ | assumption | refine Below.drew ?_ | refine below_drewN ?_ _ | refine Below.setCell ?_ (by first | exact Nat.le_refl _ | exact Below.size (by assumption) | (simp; done) | (simp; omega) | omega) _ | refine Below.alloc ?_ (by first | exact Nat.le_refl _ | exact Below.size (by assumption) | (simp; done) | (simp; omega) | omega) _)) (hb11.mono (by simp))
          have HM2' := Lib.hid (HM2.out.next hbx)
          have HG12 := Lib.hid (HG11.out.next hbx)
          have HY13 := Lib.hid (HY12.out.next hbx)
          have HB13 := Lib.hid (below_after HB12.out hbx)
          clear hb11 hbx HG11 HY12 HB12 HM1 HM2 HM3 e0 e1 e2 e3 e4 f0 f1 f2 f3 f4 d0 d1 d2 d3 d4 hxor HRL
          go_wp2_with fail
          refine (implPairsSum_any _ rc b _ HY13.out HTB.out).mono ?_
          rintro e w12 ⟨rfl, hb12⟩
          have HM2 := Lib.hid (HM2'.out.next hb12)
          have HG13 := Lib.hid (HG12.out.next hb12)
          have HY14 := Lib.hid (HY13.out.next hb12)
          have HB14 := Lib.hid (below_after HB13.out hb12)
          clear hb12 HM2' HG12 HY13 HB13
          go_wp2_with fail
          refine (samePairs_any G _ gc rc b b _ HG13.out HY14.out (by simp only [maxLen]; omega) (by simp only [maxLen]; omega)).mono ?_
          rw [show decide (b = b) = true from by simp]
          rintro e w13 ⟨rfl, n13, hw13⟩
          have hb13 : Below w12.heap.size w12 w13 := by rw [hw13]; exact below_drewN (Below.refl _ _) n13
          have hM2 := HM2.out.next hb13
          have HB15 := Lib.hid (below_after HB14.out hb13)
          have d4 := hM2.c4
          obtain ⟨q1, q2⟩ := eqI (sumP b : Int)
          clear hw13 hb13 hM2 HM2
          go_wp2_with fail
          go_ret
          exact ⟨rfl, HB15.out⟩
end Go.Proofs.Ytlfnpnkpjdmonaa
