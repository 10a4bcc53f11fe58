import Derived.Test.YtlfnpnkpjdmonaaLink
set_option linter.unusedVariables false
set_option linter.unusedSimpArgs false
namespace Go.Proofs.Ytlfnpnkpjdmonaa
open Go.RowKit

/-! ### a backup that is right, at whatever backup -/
noncomputable def dOk (d : Df) : Bool := withinB d.key.size 1 30 && decide (d.old.size ≤ 90) && decide (d.new.size ≤ 90) && (d.had || d.has) && (d.had || decide (d.old = ⟨#[]⟩)) && (d.has || decide (d.new = ⟨#[]⟩))
theorem dOk_iff (d : Df) : dOk d = true ↔ DOk d := by
  constructor
  · intro h
    simp only [dOk, Bool.and_eq_true, Bool.or_eq_true, decide_eq_true_eq] at h
    obtain ⟨⟨⟨⟨⟨h1, h2⟩, h3⟩, h4⟩, h5⟩, h6⟩ := h
    exact ⟨h1, h2, h3, h4, fun e => h5.resolve_left (by simp [e]), fun e => h6.resolve_left (by simp [e])⟩
  · rintro ⟨h1, h2, h3, h4, h5, h6⟩
    simp only [dOk, Bool.and_eq_true, Bool.or_eq_true, decide_eq_true_eq]
    refine ⟨⟨⟨⟨⟨h1, h2⟩, h3⟩, h4⟩, ?_⟩, ?_⟩
    · cases hh : d.had
      · exact .inr (h5 hh)
      · exact .inl rfl
    · cases hh : d.has
      · exact .inr (h6 hh)
      · exact .inl rfl
def DSz (d : Df) : Prop := d.key.size ≤ 4611686018427387904 ∧ d.old.size ≤ 4611686018427387904 ∧ d.new.size ≤ 4611686018427387904
theorem isE_false {a : ByteArray} (h : a ≠ ⟨#[]⟩) : (a.toList == []) = false := by
  have := notEmpty h
  cases h1 : a.toList with
  | nil => rw [h1] at this; simp at this
  | cons x l => simp
set_option maxRecDepth 100000 in
set_option maxHeartbeats 4000000 in
theorem diffOKB_any (d : Df) (w : World) (h : DSz d) : Calls Try.prog 151 #[dfV d] w fun e w' => e = .returned (.bool (dOk d)) ∧ Below w.heap.size w w' := by
  obtain ⟨key, old, new, had, has⟩ := d
  obtain ⟨hk, ho, hn⟩ := h
  have hk' : key.size ≤ 4611686018427387904 := hk
  have ho' : old.size ≤ 4611686018427387904 := ho
  have hn' : new.size ≤ 4611686018427387904 := hn
  obtain ⟨r, hr⟩ : ∃ r, r = dOk ⟨key, old, new, had, has⟩ := ⟨_, rfl⟩
  rw [← hr]
  have HK := Lib.hid (fun W => keyOK_any key W hk')
  have hb : Below w.heap.size w (w.alloc (.cells #[.string key, .string old, .string new, .bool had, .bool has] 145)) := by repeat (first | exact Below.refl _ _ | assumption | refine Below.drew ?_ | refine below_drewN ?_ _ | refine Below.setCell ?_ (by first | exact Nat.le_refl _ | exact Below.size (by assumption) | (simp; done) | (simp; omega) | omega) _ | refine Below.alloc ?_ (by first | exact Nat.le_refl _ | exact Below.size (by assumption) | (simp; done) | (simp; omega) | omega) _)
  have HB := Lib.hid hb
  clear hb hk ho hn hk'
  simp only [dOk] at hr
  cases h1 : withinB key.size 1 30
  case false =>
    rw [h1] at HK hr
    have HR := Lib.hid hr
    clear hr h1
    go_enter Try.func151, Try.ntmps151
    go_wp2_with (first | (go_at_call 178; refine (HK.out _).mono ?_; rintro e w1 ⟨rfl, rfl⟩))
    go_ret
    exact ⟨by rw [HR.out]; rfl, HB.out⟩
  case true =>
    rw [h1] at HK hr
    clear h1
    by_cases h2 : old.size ≤ 90
    case neg =>
      rw [decide_eq_false h2] at hr
      have HR := Lib.hid hr
      have g2 : 90 < old.size := by omega
      clear hr
      go_enter Try.func151, Try.ntmps151
      go_wp2_with (first | (go_at_call 178; refine (HK.out _).mono ?_; rintro e w1 ⟨rfl, rfl⟩))
      go_ret
      exact ⟨by rw [HR.out]; rfl, HB.out⟩
    rw [decide_eq_true h2] at hr
    by_cases h3 : new.size ≤ 90
    case neg =>
      rw [decide_eq_false h3] at hr
      have HR := Lib.hid hr
      have g3 : 90 < new.size := by omega
      clear hr
      go_enter Try.func151, Try.ntmps151
      go_wp2_with (first | (go_at_call 178; refine (HK.out _).mono ?_; rintro e w1 ⟨rfl, rfl⟩))
      go_ret
      exact ⟨by rw [HR.out]; rfl, HB.out⟩
    rw [decide_eq_true h3] at hr
    by_cases h4 : old = ⟨#[]⟩ <;> by_cases h5 : new = ⟨#[]⟩
    all_goals
      first
      | rw [decide_eq_true h4] at hr
      | rw [decide_eq_false h4] at hr
      first
      | rw [decide_eq_true h5] at hr
      | rw [decide_eq_false h5] at hr
      first
      | (have e4 : (⟨#[]⟩ : ByteArray).toList.isEmpty = true := by rw [ByteArray.toList_eq]; rfl)
      first
      | (have f4 := notEmpty h4)
      | (have f4 := e4)
      first
      | (have f5 := notEmpty h5)
      | (have f5 := e4)
      cases had <;> cases has
      all_goals
        have HR := Lib.hid hr
        clear hr
        first | subst h4 | clear h4
        first | subst h5 | clear h5
        go_enter Try.func151, Try.ntmps151
        go_wp2_with (first | (go_at_call 178; refine (HK.out _).mono ?_; rintro e w1 ⟨rfl, rfl⟩))
        go_ret
        exact ⟨by rw [HR.out]; rfl, HB.out⟩
def GoodDs (l : List Df) (k : Nat) : Prop := ∀ i (h : i < l.length), i < k → dOk l[i] = true ∧ (0 < i → lt (l[i - 1]'(by omega)).key l[i].key = true)
open Classical in
noncomputable def okDs (l : List Df) : Bool := decide (GoodDs l l.length)
theorem GoodDs.step {l : List Df} {k : Nat} (h : GoodDs l k) (hk : k < l.length) (h1 : dOk l[k] = true) (h2 : 0 < k → lt (l[k - 1]'(by omega)).key l[k].key = true) : GoodDs l (k + 1) := fun i hi hik => by
  by_cases e : i = k
  · subst e; exact ⟨h1, h2⟩
  · exact h i hi (by omega)
open Classical in
theorem okDs_true {l : List Df} {k : Nat} (h : GoodDs l k) (hk : l.length ≤ k) : okDs l = true := by
  unfold okDs
  exact decide_eq_true (fun i hi _ => h i hi (by omega))
open Classical in
theorem okDs_false1 {l : List Df} {k : Nat} (hk : k < l.length) (h : dOk l[k] = false) : okDs l = false := by
  unfold okDs
  refine decide_eq_false ?_
  intro hg
  rw [(hg k hk hk).1] at h
  cases h
open Classical in
theorem okDs_false2 {l : List Df} {k : Nat} (hk : k < l.length) (h0 : 0 < k) (h : lt (l[k - 1]'(by omega)).key l[k].key = false) : okDs l = false := by
  unfold okDs
  refine decide_eq_false ?_
  intro hg
  rw [(hg k hk hk).2 h0] at h
  cases h
open Classical in
theorem okDs_good {l : List Df} (h : okDs l = true) : GoodDs l l.length := by unfold okDs at h; exact of_decide_eq_true h
noncomputable def bkB (f t : ByteArray) (ch : Int) (ds : List Df) (sm : Int) : Bool := headB f t ch && (withinB sm 0 4294967295 && (decide (ds.length ≤ 120) && okDs ds))
@[reducible] def bkV (f t : ByteArray) (ch : Int) (D : Option Addr) (n dc : Nat) (sm : Int) : Value := .agg #[.string f, .string t, .int .i64 ch, .slice D n dc, .int .i64 sm]
set_option maxRecDepth 100000 in
set_option maxHeartbeats 4000000 in
theorem implBackupOK_any (f t : ByteArray) (ch : Int) (D : Option Addr) (ds : List Df) (dc : Nat) (sm : Int) (w : World) (hx : Rd w w.heap.size D (flat encD ds)) (hl : ds.length ≤ 1048576) (hf : f.size ≤ maxLen) (ht : t.size ≤ maxLen) (hs : ∀ d ∈ ds, DSz d) :
    Calls Try.prog 70 #[bkV f t ch D ds.length dc sm] w fun e w' => e = .returned (.bool (bkB f t ch ds sm)) ∧ Below w.heap.size w w' := by
  obtain ⟨r, hr⟩ : ∃ r, r = bkB f t ch ds sm := ⟨_, rfl⟩
  rw [← hr]
  unfold bkB at hr
  have H1 := Lib.hid (fun W => headOK_any f t ch W hf ht)
  have H2 := Lib.hid (fun W => within_any sm 0 4294967295 W)
  have HX := Lib.hid hx
  have HS := Lib.hid hs
  have hb0 : Below w.heap.size w (w.alloc (.cells #[.string f, .string t, .int .i64 ch, .slice D ds.length dc, .int .i64 sm] 86)) := by repeat (first | exact Below.refl _ _ | assumption | refine Below.drew ?_ | refine below_drewN ?_ _ | refine Below.setCell ?_ (by first | exact Nat.le_refl _ | exact Below.size (by assumption) | (simp; done) | (simp; omega) | omega) _ | refine Below.alloc ?_ (by first | exact Nat.le_refl _ | exact Below.size (by assumption) | (simp; done) | (simp; omega) | omega) _)
  have e0 : (w.alloc (.cells #[.string f, .string t, .int .i64 ch, .slice D ds.length dc, .int .i64 sm] 86)).heap[w.heap.size]? = some (.cells #[.string f, .string t, .int .i64 ch, .slice D ds.length dc, .int .i64 sm] 86 (0, 0)) := heap_alloc_new _ _
  have HB0 := Lib.hid (And.intro hb0 e0)
  clear hx hs hf ht hb0 e0
  cases ha : headB f t ch
  case false =>
    rw [ha] at H1 hr
    have HR := Lib.hid hr
    clear hr ha
    go_enter Try.func70, Try.ntmps70
    go_wp2_with (first | (go_at_call 150; refine (H1.out _).mono ?_; rintro e w1 ⟨rfl, rfl⟩) | (go_at_call 106; refine (H2.out _).mono ?_; rintro e w1 ⟨rfl, rfl⟩))
    go_ret
    exact ⟨by rw [HR.out]; rfl, HB0.out.1⟩
  rw [ha] at H1 hr
  cases hb : withinB sm 0 4294967295
  case false =>
    rw [hb] at H2 hr
    have HR := Lib.hid hr
    clear hr ha hb
    go_enter Try.func70, Try.ntmps70
    go_wp2_with (first | (go_at_call 150; refine (H1.out _).mono ?_; rintro e w1 ⟨rfl, rfl⟩) | (go_at_call 106; refine (H2.out _).mono ?_; rintro e w1 ⟨rfl, rfl⟩))
    go_ret
    exact ⟨by rw [HR.out]; rfl, HB0.out.1⟩
  rw [hb] at H2 hr
  by_cases hc : ds.length ≤ 120
  case neg =>
    rw [decide_eq_false hc] at hr
    have HR := Lib.hid hr
    have hc' : 120 < ds.length := by omega
    clear hr ha hb hc
    go_enter Try.func70, Try.ntmps70
    go_wp2_with (first | (go_at_call 150; refine (H1.out _).mono ?_; rintro e w1 ⟨rfl, rfl⟩) | (go_at_call 106; refine (H2.out _).mono ?_; rintro e w1 ⟨rfl, rfl⟩))
    go_ret
    exact ⟨by rw [HR.out]; rfl, HB0.out.1⟩
  rw [decide_eq_true hc] at hr
  have HR : Hid (okDs ds = r) := (show r = okDs ds from hr).symm
  clear hr ha hb
  go_enter Try.func70, Try.ntmps70
  go_wp2_with (first | (go_at_call 150; refine (H1.out _).mono ?_; rintro e w1 ⟨rfl, rfl⟩) | (go_at_call 106; refine (H2.out _).mono ?_; rintro e w1 ⟨rfl, rfl⟩))
  clear H1 H2
  go_loopw [28] (fun i wr => ∃ k : Nat, k ≤ ds.length ∧ i = .int .i64 k ∧ GoodDs ds k ∧ wr.heap[w.heap.size]? = some (.cells #[.string f, .string t, .int .i64 ch, .slice D ds.length dc, .int .i64 sm] 86 (0, 0)) ∧ Below w.heap.size w wr) (fun i _ => ds.length - (intOf i).toNat)
  case atStart => exact ⟨0, Nat.zero_le _, rfl, fun i h hi => by omega, HB0.out.2, HB0.out.1⟩
  case round =>
    obtain ⟨k, hk, rfl, hg, he, hb⟩ := hrel
    have hez : w.heap.size < wr.heap.size := (Array.getElem?_eq_some_iff.1 he).1
    have HG := Lib.hid hg
    have HE := Lib.hid he
    clear hg he
    by_cases hlt : k < ds.length
    · obtain ⟨ad, rfl, hbl, h1, h2, h3, h4, h5⟩ := (HX.out.below hb).df hlt
      have hcl := hb.size
      have HSX : Hid (DSz ds[k]) := HS.out _ (List.getElem_mem _)
      have HN1 := Lib.hid (fun h => okDs_false1 hlt h)
      have HST := Lib.hid (fun h1 h2 => HG.out.step hlt h1 h2)
      by_cases h0 : 0 < k
      · have hlp : k - 1 < ds.length := by omega
        obtain ⟨ad', e1, _, hp, _⟩ := (HX.out.below hb).df hlp
        injection e1 with e1
        subst e1
        have k2 : (wr.alloc (.cells #[.string ds[k].key, .string ds[k].old, .string ds[k].new, .bool ds[k].had, .bool ds[k].has] 145)).cell? (ad.add ((k - 1) * 5)) = some (.string ds[k - 1].key) := oldA hp (by simp only [add_block]; omega)
        have k3 : (wr.alloc (.cells #[.string ds[k].key, .string ds[k].old, .string ds[k].new, .bool ds[k].had, .bool ds[k].has] 145)).cell? ⟨w.heap.size, 3, none⟩ = some (.slice (some ad) ds.length dc) := oldA (by rw [cell_of_row wr _ 3 _ _ _ HE.out]; rfl) (by show w.heap.size < _; omega)
        have HN2 := Lib.hid (fun h => okDs_false2 hlt h0 h)
        generalize hgx : ds[k] = x at *
        generalize hgp : ds[k - 1] = p at *
        clear hgx hgp
        have hW : Below w.heap.size w (wr.alloc (.cells #[.string x.key, .string x.old, .string x.new, .bool x.had, .bool x.has] 145)) := by repeat (first | exact Below.refl _ _ | assumption | refine Below.drew ?_ | refine below_drewN ?_ _ | refine Below.setCell ?_ (by first | exact Nat.le_refl _ | exact Below.size (by assumption) | (simp; done) | (simp; omega) | omega) _ | refine Below.alloc ?_ (by first | exact Nat.le_refl _ | exact Below.size (by assumption) | (simp; done) | (simp; omega) | omega) _)
        have m0 : (wr.alloc (.cells #[.string x.key, .string x.old, .string x.new, .bool x.had, .bool x.has] 145)).cell? ⟨wr.heap.size, 0, none⟩ = some (.string x.key) := by simp [go_sem]
        have m1 : (wr.alloc (.cells #[.string x.key, .string x.old, .string x.new, .bool x.had, .bool x.has] 145)).cell? ⟨wr.heap.size, 1, none⟩ = some (.string x.old) := by simp [go_sem]
        have m2 : (wr.alloc (.cells #[.string x.key, .string x.old, .string x.new, .bool x.had, .bool x.has] 145)).cell? ⟨wr.heap.size, 2, none⟩ = some (.string x.new) := by simp [go_sem]
        have m3 : (wr.alloc (.cells #[.string x.key, .string x.old, .string x.new, .bool x.had, .bool x.has] 145)).cell? ⟨wr.heap.size, 3, none⟩ = some (.bool x.had) := by simp [go_sem]
        have m4 : (wr.alloc (.cells #[.string x.key, .string x.old, .string x.new, .bool x.had, .bool x.has] 145)).cell? ⟨wr.heap.size, 4, none⟩ = some (.bool x.has) := by simp [go_sem]
        have HW := Lib.hid hW
        clear hW
        have q0 : IntKind.i64.wrap ((k : Int) - 1) = (k : Int) - 1 := IntWalk.i64_in _ (by omega)
        have q1 : (0 : Int) ≤ (k : Int) - 1 := by omega
        have q2 : ((k : Int) - 1).toNat = k - 1 := by omega
        have q3 : decide ((0 : Int) < (k : Int)) = true := by simp; omega
        have q5 : (k : Int) - 1 < (ds.length : Int) := by omega
        have q6 : (1 : Int) ≤ (k : Int) := by omega
        cases hpb : dOk x with
        | false =>
          have HPB := Lib.hid hpb
          go_wp2_with fail
          refine wp_region_noPanic ?_
          refine wp_region_held_drew (S := (fun w' => w'.cell? ⟨wr.heap.size, 0, none⟩ = some (.string x.key) ∧ w'.cell? ⟨wr.heap.size, 1, none⟩ = some (.string x.old) ∧ w'.cell? ⟨wr.heap.size, 2, none⟩ = some (.string x.new) ∧ w'.cell? ⟨wr.heap.size, 3, none⟩ = some (.bool x.had) ∧ w'.cell? ⟨wr.heap.size, 4, none⟩ = some (.bool x.has))) (by kernel_rfl) ?_ (fun hHeld => ?_)
          · (try dsimp only)
            refine ⟨?_, ?_, ?_, ?_, ?_⟩ <;> assumption
          refine wpAnyH_take (i := 0) (oi := ⟨some 33, _, _, _, _, _⟩) (v := ?_) rfl (by kernel_rfl) (by kernel_rfl) (by kernel_rfl) (fun _ _ _ h => h) (Or.inl ⟨by simp [Region.wanted, yielded, undef], ?_⟩) (by assumption) ?_
          rotate_left
          · ((intro w hSw; (try dsimp only at hSw); go_simp) <;> with_reducible rfl)
          (try simp only [Act.put, List.setIfInBounds_toArray, List.set_cons_zero, List.set_cons_succ])
          refine wpAnyH_ready (rs := [1]) (by kernel_rfl) (by simp) ?_
          refine AllReadyH.cons (o := ⟨some 34, _, _, _, _, _⟩) rfl (fun K hK => ?_) AllReadyH.nil
          go_simp
          refine (diffOKB_any x _ HSX.out).mono ?_
          rw [hpb]
          rintro e w2 ⟨rfl, hb2⟩
          go_wp2_with fail
          refine hK.out _ _ ?_ (fun hHeld => ?_)
          · (try dsimp only)
            refine ⟨?_, ?_, ?_, ?_, ?_⟩ <;> first | assumption | ((refine (hb2.cell ?_).trans ?_) <;> first | assumption | (simp only [add_block, World.size_drew, World.size_alloc]; omega))
          clear hK K
          (try simp only [Act.put, List.setIfInBounds_toArray, List.set_cons_zero, List.set_cons_succ])
          refine wpAnyH_take (i := 2) (oi := ⟨some 35, _, _, _, _, _⟩) (v := ?_) rfl (by kernel_rfl) (by kernel_rfl) (by kernel_rfl) (fun _ _ _ h => h) (Or.inl ⟨by simp [Region.wanted, yielded, undef], ?_⟩) (by assumption) ?_
          rotate_left
          · ((intro w hSw; (try dsimp only at hSw); go_simp) <;> with_reducible rfl)
          (try simp only [Act.put, List.setIfInBounds_toArray, List.set_cons_zero, List.set_cons_succ])
          refine wpAnyH_take (i := 3) (oi := ⟨some 36, _, _, _, _, _⟩) (v := ?_) rfl (by kernel_rfl) (by kernel_rfl) (by kernel_rfl) (fun _ _ _ h => h) (Or.inl ⟨by simp [Region.wanted, yielded, undef], ?_⟩) (by assumption) ?_
          rotate_left
          · ((intro w hSw; (try dsimp only at hSw); go_simp) <;> with_reducible rfl)
          (try simp only [Act.put, List.setIfInBounds_toArray, List.set_cons_zero, List.set_cons_succ])
          refine wpAnyH_take (i := 4) (oi := ⟨some 37, _, _, _, _, _⟩) (v := undef) rfl (by kernel_rfl) (by kernel_rfl) (by kernel_rfl) (fun _ _ _ h => h) (Or.inr ⟨by simp [Region.wanted, yielded, undef], rfl⟩) (by assumption) ?_
          (try simp only [Act.put, List.setIfInBounds_toArray, List.set_cons_zero, List.set_cons_succ])
          refine wpAnyH_take (i := 5) (oi := ⟨some 38, _, _, _, _, _⟩) (v := undef) rfl (by kernel_rfl) (by kernel_rfl) (by kernel_rfl) (fun _ _ _ h => h) (Or.inr ⟨by simp [Region.wanted, yielded, undef], rfl⟩) (by assumption) ?_
          (try simp only [Act.put, List.setIfInBounds_toArray, List.set_cons_zero, List.set_cons_succ])
          refine wpAnyH_take (i := 6) (oi := ⟨some 39, _, _, _, _, _⟩) (v := undef) rfl (by kernel_rfl) (by kernel_rfl) (by kernel_rfl) (fun _ _ _ h => h) (Or.inr ⟨by simp [Region.wanted, yielded, undef], rfl⟩) (by assumption) ?_
          (try simp only [Act.put, List.setIfInBounds_toArray, List.set_cons_zero, List.set_cons_succ])
          refine wpAnyH_take (i := 7) (oi := ⟨some 40, _, _, _, _, _⟩) (v := undef) rfl (by kernel_rfl) (by kernel_rfl) (by kernel_rfl) (fun _ _ _ h => h) (Or.inr ⟨by simp [Region.wanted, yielded, undef], rfl⟩) (by assumption) ?_
          (try simp only [Act.put, List.setIfInBounds_toArray, List.set_cons_zero, List.set_cons_succ])
          refine wpAnyH_take (i := 8) (oi := ⟨some 41, _, _, _, _, _⟩) (v := undef) rfl (by kernel_rfl) (by kernel_rfl) (by kernel_rfl) (fun _ _ _ h => h) (Or.inr ⟨by simp [Region.wanted, yielded, undef], rfl⟩) (by assumption) ?_
          (try simp only [Act.put, List.setIfInBounds_toArray, List.set_cons_zero, List.set_cons_succ])
          refine wpAnyH_take (i := 9) (oi := ⟨some 42, _, _, _, _, _⟩) (v := undef) rfl (by kernel_rfl) (by kernel_rfl) (by kernel_rfl) (fun _ _ _ h => h) (Or.inr ⟨by simp [Region.wanted, yielded, undef], rfl⟩) (by assumption) ?_
          (try simp only [Act.put, List.setIfInBounds_toArray, List.set_cons_zero, List.set_cons_succ])
          refine wpAnyH_take (i := 10) (oi := ⟨some 43, _, _, _, _, _⟩) (v := undef) rfl (by kernel_rfl) (by kernel_rfl) (by kernel_rfl) (fun _ _ _ h => h) (Or.inr ⟨by simp [Region.wanted, yielded, undef], rfl⟩) (by assumption) ?_
          (try simp only [Act.put, List.setIfInBounds_toArray, List.set_cons_zero, List.set_cons_succ])
          refine wpAnyH_take (i := 11) (oi := ⟨some 44, _, _, _, _, _⟩) (v := undef) rfl (by kernel_rfl) (by kernel_rfl) (by kernel_rfl) (fun _ _ _ h => h) (Or.inr ⟨by simp [Region.wanted, yielded, undef], rfl⟩) (by assumption) ?_
          (try simp only [Act.put, List.setIfInBounds_toArray, List.set_cons_zero, List.set_cons_succ])
          refine wpAnyH_take (i := 12) (oi := ⟨some 45, _, _, _, _, _⟩) (v := undef) rfl (by kernel_rfl) (by kernel_rfl) (by kernel_rfl) (fun _ _ _ h => h) (Or.inr ⟨by simp [Region.wanted, yielded, undef], rfl⟩) (by assumption) ?_
          (try simp only [Act.put, List.setIfInBounds_toArray, List.set_cons_zero, List.set_cons_succ])
          refine wpAnyH_take (i := 13) (oi := ⟨some 46, _, _, _, _, _⟩) (v := undef) rfl (by kernel_rfl) (by kernel_rfl) (by kernel_rfl) (fun _ _ _ h => h) (Or.inr ⟨by simp [Region.wanted, yielded, undef], rfl⟩) (by assumption) ?_
          (try simp only [Act.put, List.setIfInBounds_toArray, List.set_cons_zero, List.set_cons_succ])
          refine wpAnyH_take (i := 14) (oi := ⟨some 47, _, _, _, _, _⟩) (v := undef) rfl (by kernel_rfl) (by kernel_rfl) (by kernel_rfl) (fun _ _ _ h => h) (Or.inr ⟨by simp [Region.wanted, yielded, undef], rfl⟩) (by assumption) ?_
          (try simp only [Act.put, List.setIfInBounds_toArray, List.set_cons_zero, List.set_cons_succ])
          refine wpAnyH_take (i := 15) (oi := ⟨some 48, _, _, _, _, _⟩) (v := undef) rfl (by kernel_rfl) (by kernel_rfl) (by kernel_rfl) (fun _ _ _ h => h) (Or.inr ⟨by simp [Region.wanted, yielded, undef], rfl⟩) (by assumption) ?_
          (try simp only [Act.put, List.setIfInBounds_toArray, List.set_cons_zero, List.set_cons_succ])
          refine wpAnyH_take (i := 16) (oi := ⟨some 49, _, _, _, _, _⟩) (v := undef) rfl (by kernel_rfl) (by kernel_rfl) (by kernel_rfl) (fun _ _ _ h => h) (Or.inr ⟨by simp [Region.wanted, yielded, undef], rfl⟩) (by assumption) ?_
          (try simp only [Act.put, List.setIfInBounds_toArray, List.set_cons_zero, List.set_cons_succ])
          refine wpAnyH_take (i := 17) (oi := ⟨some 50, _, _, _, _, _⟩) (v := undef) rfl (by kernel_rfl) (by kernel_rfl) (by kernel_rfl) (fun _ _ _ h => h) (Or.inr ⟨by simp [Region.wanted, yielded, undef], rfl⟩) (by assumption) ?_
          (try simp only [Act.put, List.setIfInBounds_toArray, List.set_cons_zero, List.set_cons_succ])
          refine wpAnyH_take (i := 18) (oi := ⟨some 51, _, _, _, _, _⟩) (v := ?_) rfl (by kernel_rfl) (by kernel_rfl) (by kernel_rfl) (fun _ _ _ h => h) (Or.inl ⟨by simp [Region.wanted, yielded, undef], ?_⟩) (by assumption) ?_
          rotate_left
          · ((intro w hSw; (try dsimp only at hSw); go_simp) <;> with_reducible rfl)
          (try simp only [Act.put, List.setIfInBounds_toArray, List.set_cons_zero, List.set_cons_succ])
          refine wpAnyH_done (by kernel_rfl) ?_ _
          refine NoPanic.normal ?_
          have HB2 := Lib.hid (below_after HW.out.drew hb2)
          clear hb2
          go_wp2_with fail
          go_ret
          exact ⟨by rw [show r = false from HR.out.symm.trans (HN1.out HPB.out)]; rfl, HB2.out⟩
        | true =>
          have HPB := Lib.hid hpb
          cases hlt2 : lt p.key x.key
          all_goals
            have q4 : Op.bytesLess p.key.toList x.key.toList = _ := hlt2
            have HLT := Lib.hid hlt2
            clear hlt2
            go_wp2_with fail
            go_region_held3 (fun w' => w'.cell? ⟨wr.heap.size, 0, none⟩ = some (.string x.key) ∧ w'.cell? ⟨wr.heap.size, 1, none⟩ = some (.string x.old) ∧ w'.cell? ⟨wr.heap.size, 2, none⟩ = some (.string x.new) ∧ w'.cell? ⟨wr.heap.size, 3, none⟩ = some (.bool x.had) ∧ w'.cell? ⟨wr.heap.size, 4, none⟩ = some (.bool x.has) ∧ w'.cell? ⟨w.heap.size, 3, none⟩ = some (.slice (some ad) ds.length dc) ∧ w'.cell? (ad.add ((k - 1) * 5)) = some (.string p.key))
              (refine ⟨?_, ?_, ?_, ?_, ?_, ?_, ?_⟩ <;> first | assumption | ((refine (hb2.cell ?_).trans ?_) <;> first | assumption | (simp only [add_block, World.size_drew, World.size_alloc]; omega)))
              (first | (go_at_call 151; refine (diffOKB_any x _ HSX.out).mono ?_; rw [hpb]; rintro e w2 ⟨rfl, hb2⟩))
            first
              | (have HB2 := Lib.hid (below_after HW.out.drew hb2)
                 clear hb2
                 go_wp2_with fail
                 go_ret
                 exact ⟨by rw [show r = false from HR.out.symm.trans (HN2.out HLT.out)]; rfl, HB2.out⟩)
              | (have HB2 := Lib.hid (below_after HW.out.drew hb2)
                 have e0 := (hb2.block w.heap.size (by simp only [World.size_drew, World.size_alloc]; omega)).trans ((by rw [show (World.drew (wr.alloc (.cells #[.string x.key, .string x.old, .string x.new, .bool x.had, .bool x.has] 145))).heap = (wr.alloc (.cells #[.string x.key, .string x.old, .string x.new, .bool x.had, .bool x.has] 145)).heap from rfl]; exact (Below.block (B := wr.heap.size) (by repeat (first | exact Below.refl _ _ | assumption | refine Below.drew ?_ | refine below_drewN ?_ _ | refine Below.setCell ?_ (by first | exact Nat.le_refl _ | exact Below.size (by assumption) | (simp; done) | (simp; omega) | omega) _ | refine Below.alloc ?_ (by first | exact Nat.le_refl _ | exact Below.size (by assumption) | (simp; done) | (simp; omega) | omega) _)) _ (by omega)).trans HE.out : _ = some _))
                 have HE2 := Lib.hid e0
                 clear hb2 e0
                 go_wp2_with fail
                 go_roundw
                 case rel => exact ⟨k + 1, by omega, by go_num, HST.out HPB.out (fun _ => HLT.out), HE2.out, HB2.out⟩
                 case measure => simp [intOf]; omega)
      · obtain rfl : k = 0 := by omega
        generalize hgx : ds[0] = x at *
        clear hgx
        have hd0 : wr.cell? ad = some (.string x.key) := by simpa [Addr.add] using h1
        have hd1 : wr.cell? ⟨ad.block, ad.off + 1, none⟩ = some (.string x.old) := by simpa [Addr.add] using h2
        have hd2 : wr.cell? ⟨ad.block, ad.off + 1 + 1, none⟩ = some (.string x.new) := by simpa [Addr.add] using h3
        have hd3 : wr.cell? ⟨ad.block, ad.off + 1 + 1 + 1, none⟩ = some (.bool x.had) := by simpa [Addr.add] using h4
        have hd4 : wr.cell? ⟨ad.block, ad.off + 1 + 1 + 1 + 1, none⟩ = some (.bool x.has) := by simpa [Addr.add] using h5
        have hW : Below w.heap.size w (wr.alloc (.cells #[.string x.key, .string x.old, .string x.new, .bool x.had, .bool x.has] 145)) := by repeat (first | exact Below.refl _ _ | assumption | refine Below.drew ?_ | refine below_drewN ?_ _ | refine Below.setCell ?_ (by first | exact Nat.le_refl _ | exact Below.size (by assumption) | (simp; done) | (simp; omega) | omega) _ | refine Below.alloc ?_ (by first | exact Nat.le_refl _ | exact Below.size (by assumption) | (simp; done) | (simp; omega) | omega) _)
        have m0 : (wr.alloc (.cells #[.string x.key, .string x.old, .string x.new, .bool x.had, .bool x.has] 145)).cell? ⟨wr.heap.size, 0, none⟩ = some (.string x.key) := by simp [go_sem]
        have m1 : (wr.alloc (.cells #[.string x.key, .string x.old, .string x.new, .bool x.had, .bool x.has] 145)).cell? ⟨wr.heap.size, 1, none⟩ = some (.string x.old) := by simp [go_sem]
        have m2 : (wr.alloc (.cells #[.string x.key, .string x.old, .string x.new, .bool x.had, .bool x.has] 145)).cell? ⟨wr.heap.size, 2, none⟩ = some (.string x.new) := by simp [go_sem]
        have m3 : (wr.alloc (.cells #[.string x.key, .string x.old, .string x.new, .bool x.had, .bool x.has] 145)).cell? ⟨wr.heap.size, 3, none⟩ = some (.bool x.had) := by simp [go_sem]
        have m4 : (wr.alloc (.cells #[.string x.key, .string x.old, .string x.new, .bool x.had, .bool x.has] 145)).cell? ⟨wr.heap.size, 4, none⟩ = some (.bool x.has) := by simp [go_sem]
        have HW := Lib.hid hW
        clear hW
        cases hpb : dOk x with
        | false =>
          have HPB := Lib.hid hpb
          go_wp2_with fail
          refine wp_region_noPanic ?_
          refine wp_region_held_drew (S := (fun w' => w'.cell? ⟨wr.heap.size, 0, none⟩ = some (.string x.key) ∧ w'.cell? ⟨wr.heap.size, 1, none⟩ = some (.string x.old) ∧ w'.cell? ⟨wr.heap.size, 2, none⟩ = some (.string x.new) ∧ w'.cell? ⟨wr.heap.size, 3, none⟩ = some (.bool x.had) ∧ w'.cell? ⟨wr.heap.size, 4, none⟩ = some (.bool x.has))) (by kernel_rfl) ?_ (fun hHeld => ?_)
          · (try dsimp only)
            refine ⟨?_, ?_, ?_, ?_, ?_⟩ <;> assumption
          refine wpAnyH_take (i := 0) (oi := ⟨some 33, _, _, _, _, _⟩) (v := ?_) rfl (by kernel_rfl) (by kernel_rfl) (by kernel_rfl) (fun _ _ _ h => h) (Or.inl ⟨by simp [Region.wanted, yielded, undef], ?_⟩) (by assumption) ?_
          rotate_left
          · ((intro w hSw; (try dsimp only at hSw); go_simp) <;> with_reducible rfl)
          (try simp only [Act.put, List.setIfInBounds_toArray, List.set_cons_zero, List.set_cons_succ])
          refine wpAnyH_ready (rs := [1]) (by kernel_rfl) (by simp) ?_
          refine AllReadyH.cons (o := ⟨some 34, _, _, _, _, _⟩) rfl (fun K hK => ?_) AllReadyH.nil
          go_simp
          refine (diffOKB_any x _ HSX.out).mono ?_
          rw [hpb]
          rintro e w2 ⟨rfl, hb2⟩
          go_wp2_with fail
          refine hK.out _ _ ?_ (fun hHeld => ?_)
          · (try dsimp only)
            refine ⟨?_, ?_, ?_, ?_, ?_⟩ <;> first | assumption | ((refine (hb2.cell ?_).trans ?_) <;> first | assumption | (simp only [add_block, World.size_drew, World.size_alloc]; omega))
          clear hK K
          (try simp only [Act.put, List.setIfInBounds_toArray, List.set_cons_zero, List.set_cons_succ])
          refine wpAnyH_take (i := 2) (oi := ⟨some 35, _, _, _, _, _⟩) (v := ?_) rfl (by kernel_rfl) (by kernel_rfl) (by kernel_rfl) (fun _ _ _ h => h) (Or.inl ⟨by simp [Region.wanted, yielded, undef], ?_⟩) (by assumption) ?_
          rotate_left
          · ((intro w hSw; (try dsimp only at hSw); go_simp) <;> with_reducible rfl)
          (try simp only [Act.put, List.setIfInBounds_toArray, List.set_cons_zero, List.set_cons_succ])
          refine wpAnyH_take (i := 3) (oi := ⟨some 36, _, _, _, _, _⟩) (v := ?_) rfl (by kernel_rfl) (by kernel_rfl) (by kernel_rfl) (fun _ _ _ h => h) (Or.inl ⟨by simp [Region.wanted, yielded, undef], ?_⟩) (by assumption) ?_
          rotate_left
          · ((intro w hSw; (try dsimp only at hSw); go_simp) <;> with_reducible rfl)
          (try simp only [Act.put, List.setIfInBounds_toArray, List.set_cons_zero, List.set_cons_succ])
          refine wpAnyH_take (i := 4) (oi := ⟨some 37, _, _, _, _, _⟩) (v := undef) rfl (by kernel_rfl) (by kernel_rfl) (by kernel_rfl) (fun _ _ _ h => h) (Or.inr ⟨by simp [Region.wanted, yielded, undef], rfl⟩) (by assumption) ?_
          (try simp only [Act.put, List.setIfInBounds_toArray, List.set_cons_zero, List.set_cons_succ])
          refine wpAnyH_take (i := 5) (oi := ⟨some 38, _, _, _, _, _⟩) (v := undef) rfl (by kernel_rfl) (by kernel_rfl) (by kernel_rfl) (fun _ _ _ h => h) (Or.inr ⟨by simp [Region.wanted, yielded, undef], rfl⟩) (by assumption) ?_
          (try simp only [Act.put, List.setIfInBounds_toArray, List.set_cons_zero, List.set_cons_succ])
          refine wpAnyH_take (i := 6) (oi := ⟨some 39, _, _, _, _, _⟩) (v := undef) rfl (by kernel_rfl) (by kernel_rfl) (by kernel_rfl) (fun _ _ _ h => h) (Or.inr ⟨by simp [Region.wanted, yielded, undef], rfl⟩) (by assumption) ?_
          (try simp only [Act.put, List.setIfInBounds_toArray, List.set_cons_zero, List.set_cons_succ])
          refine wpAnyH_take (i := 7) (oi := ⟨some 40, _, _, _, _, _⟩) (v := undef) rfl (by kernel_rfl) (by kernel_rfl) (by kernel_rfl) (fun _ _ _ h => h) (Or.inr ⟨by simp [Region.wanted, yielded, undef], rfl⟩) (by assumption) ?_
          (try simp only [Act.put, List.setIfInBounds_toArray, List.set_cons_zero, List.set_cons_succ])
          refine wpAnyH_take (i := 8) (oi := ⟨some 41, _, _, _, _, _⟩) (v := undef) rfl (by kernel_rfl) (by kernel_rfl) (by kernel_rfl) (fun _ _ _ h => h) (Or.inr ⟨by simp [Region.wanted, yielded, undef], rfl⟩) (by assumption) ?_
          (try simp only [Act.put, List.setIfInBounds_toArray, List.set_cons_zero, List.set_cons_succ])
          refine wpAnyH_take (i := 9) (oi := ⟨some 42, _, _, _, _, _⟩) (v := undef) rfl (by kernel_rfl) (by kernel_rfl) (by kernel_rfl) (fun _ _ _ h => h) (Or.inr ⟨by simp [Region.wanted, yielded, undef], rfl⟩) (by assumption) ?_
          (try simp only [Act.put, List.setIfInBounds_toArray, List.set_cons_zero, List.set_cons_succ])
          refine wpAnyH_take (i := 10) (oi := ⟨some 43, _, _, _, _, _⟩) (v := undef) rfl (by kernel_rfl) (by kernel_rfl) (by kernel_rfl) (fun _ _ _ h => h) (Or.inr ⟨by simp [Region.wanted, yielded, undef], rfl⟩) (by assumption) ?_
          (try simp only [Act.put, List.setIfInBounds_toArray, List.set_cons_zero, List.set_cons_succ])
          refine wpAnyH_take (i := 11) (oi := ⟨some 44, _, _, _, _, _⟩) (v := undef) rfl (by kernel_rfl) (by kernel_rfl) (by kernel_rfl) (fun _ _ _ h => h) (Or.inr ⟨by simp [Region.wanted, yielded, undef], rfl⟩) (by assumption) ?_
          (try simp only [Act.put, List.setIfInBounds_toArray, List.set_cons_zero, List.set_cons_succ])
          refine wpAnyH_take (i := 12) (oi := ⟨some 45, _, _, _, _, _⟩) (v := undef) rfl (by kernel_rfl) (by kernel_rfl) (by kernel_rfl) (fun _ _ _ h => h) (Or.inr ⟨by simp [Region.wanted, yielded, undef], rfl⟩) (by assumption) ?_
          (try simp only [Act.put, List.setIfInBounds_toArray, List.set_cons_zero, List.set_cons_succ])
          refine wpAnyH_take (i := 13) (oi := ⟨some 46, _, _, _, _, _⟩) (v := undef) rfl (by kernel_rfl) (by kernel_rfl) (by kernel_rfl) (fun _ _ _ h => h) (Or.inr ⟨by simp [Region.wanted, yielded, undef], rfl⟩) (by assumption) ?_
          (try simp only [Act.put, List.setIfInBounds_toArray, List.set_cons_zero, List.set_cons_succ])
          refine wpAnyH_take (i := 14) (oi := ⟨some 47, _, _, _, _, _⟩) (v := undef) rfl (by kernel_rfl) (by kernel_rfl) (by kernel_rfl) (fun _ _ _ h => h) (Or.inr ⟨by simp [Region.wanted, yielded, undef], rfl⟩) (by assumption) ?_
          (try simp only [Act.put, List.setIfInBounds_toArray, List.set_cons_zero, List.set_cons_succ])
          refine wpAnyH_take (i := 15) (oi := ⟨some 48, _, _, _, _, _⟩) (v := undef) rfl (by kernel_rfl) (by kernel_rfl) (by kernel_rfl) (fun _ _ _ h => h) (Or.inr ⟨by simp [Region.wanted, yielded, undef], rfl⟩) (by assumption) ?_
          (try simp only [Act.put, List.setIfInBounds_toArray, List.set_cons_zero, List.set_cons_succ])
          refine wpAnyH_take (i := 16) (oi := ⟨some 49, _, _, _, _, _⟩) (v := undef) rfl (by kernel_rfl) (by kernel_rfl) (by kernel_rfl) (fun _ _ _ h => h) (Or.inr ⟨by simp [Region.wanted, yielded, undef], rfl⟩) (by assumption) ?_
          (try simp only [Act.put, List.setIfInBounds_toArray, List.set_cons_zero, List.set_cons_succ])
          refine wpAnyH_take (i := 17) (oi := ⟨some 50, _, _, _, _, _⟩) (v := undef) rfl (by kernel_rfl) (by kernel_rfl) (by kernel_rfl) (fun _ _ _ h => h) (Or.inr ⟨by simp [Region.wanted, yielded, undef], rfl⟩) (by assumption) ?_
          (try simp only [Act.put, List.setIfInBounds_toArray, List.set_cons_zero, List.set_cons_succ])
          refine wpAnyH_take (i := 18) (oi := ⟨some 51, _, _, _, _, _⟩) (v := ?_) rfl (by kernel_rfl) (by kernel_rfl) (by kernel_rfl) (fun _ _ _ h => h) (Or.inl ⟨by simp [Region.wanted, yielded, undef], ?_⟩) (by assumption) ?_
          rotate_left
          · ((intro w hSw; (try dsimp only at hSw); go_simp) <;> with_reducible rfl)
          (try simp only [Act.put, List.setIfInBounds_toArray, List.set_cons_zero, List.set_cons_succ])
          refine wpAnyH_done (by kernel_rfl) ?_ _
          refine NoPanic.normal ?_
          have HB2 := Lib.hid (below_after HW.out.drew hb2)
          clear hb2
          go_wp2_with fail
          go_ret
          exact ⟨by rw [show r = false from HR.out.symm.trans (HN1.out HPB.out)]; rfl, HB2.out⟩
        | true =>
          have HPB := Lib.hid hpb
          go_wp2_with fail
          refine wp_region_noPanic ?_
          refine wp_region_held_drew (S := (fun w' => w'.cell? ⟨wr.heap.size, 0, none⟩ = some (.string x.key) ∧ w'.cell? ⟨wr.heap.size, 1, none⟩ = some (.string x.old) ∧ w'.cell? ⟨wr.heap.size, 2, none⟩ = some (.string x.new) ∧ w'.cell? ⟨wr.heap.size, 3, none⟩ = some (.bool x.had) ∧ w'.cell? ⟨wr.heap.size, 4, none⟩ = some (.bool x.has))) (by kernel_rfl) ?_ (fun hHeld => ?_)
          · (try dsimp only)
            refine ⟨?_, ?_, ?_, ?_, ?_⟩ <;> assumption
          refine wpAnyH_take (i := 0) (oi := ⟨some 33, _, _, _, _, _⟩) (v := ?_) rfl (by kernel_rfl) (by kernel_rfl) (by kernel_rfl) (fun _ _ _ h => h) (Or.inl ⟨by simp [Region.wanted, yielded, undef], ?_⟩) (by assumption) ?_
          rotate_left
          · ((intro w hSw; (try dsimp only at hSw); go_simp) <;> with_reducible rfl)
          (try simp only [Act.put, List.setIfInBounds_toArray, List.set_cons_zero, List.set_cons_succ])
          refine wpAnyH_ready (rs := [1]) (by kernel_rfl) (by simp) ?_
          refine AllReadyH.cons (o := ⟨some 34, _, _, _, _, _⟩) rfl (fun K hK => ?_) AllReadyH.nil
          go_simp
          refine (diffOKB_any x _ HSX.out).mono ?_
          rw [hpb]
          rintro e w2 ⟨rfl, hb2⟩
          go_wp2_with fail
          refine hK.out _ _ ?_ (fun hHeld => ?_)
          · (try dsimp only)
            refine ⟨?_, ?_, ?_, ?_, ?_⟩ <;> first | assumption | ((refine (hb2.cell ?_).trans ?_) <;> first | assumption | (simp only [add_block, World.size_drew, World.size_alloc]; omega))
          clear hK K
          (try simp only [Act.put, List.setIfInBounds_toArray, List.set_cons_zero, List.set_cons_succ])
          refine wpAnyH_take (i := 2) (oi := ⟨some 35, _, _, _, _, _⟩) (v := ?_) rfl (by kernel_rfl) (by kernel_rfl) (by kernel_rfl) (fun _ _ _ h => h) (Or.inl ⟨by simp [Region.wanted, yielded, undef], ?_⟩) (by assumption) ?_
          rotate_left
          · ((intro w hSw; (try dsimp only at hSw); go_simp) <;> with_reducible rfl)
          (try simp only [Act.put, List.setIfInBounds_toArray, List.set_cons_zero, List.set_cons_succ])
          refine wpAnyH_take (i := 3) (oi := ⟨some 36, _, _, _, _, _⟩) (v := ?_) rfl (by kernel_rfl) (by kernel_rfl) (by kernel_rfl) (fun _ _ _ h => h) (Or.inl ⟨by simp [Region.wanted, yielded, undef], ?_⟩) (by assumption) ?_
          rotate_left
          · ((intro w hSw; (try dsimp only at hSw); go_simp) <;> with_reducible rfl)
          (try simp only [Act.put, List.setIfInBounds_toArray, List.set_cons_zero, List.set_cons_succ])
          refine wpAnyH_take (i := 4) (oi := ⟨some 37, _, _, _, _, _⟩) (v := ?_) rfl (by kernel_rfl) (by kernel_rfl) (by kernel_rfl) (fun _ _ _ h => h) (Or.inl ⟨by simp [Region.wanted, yielded, undef], ?_⟩) (by assumption) ?_
          rotate_left
          · ((intro w hSw; (try dsimp only at hSw); go_simp) <;> with_reducible rfl)
          (try simp only [Act.put, List.setIfInBounds_toArray, List.set_cons_zero, List.set_cons_succ])
          refine wpAnyH_take (i := 5) (oi := ⟨some 38, _, _, _, _, _⟩) (v := ?_) rfl (by kernel_rfl) (by kernel_rfl) (by kernel_rfl) (fun _ _ _ h => h) (Or.inl ⟨by simp [Region.wanted, yielded, undef], ?_⟩) (by assumption) ?_
          rotate_left
          · ((intro w hSw; (try dsimp only at hSw); go_simp) <;> with_reducible rfl)
          (try simp only [Act.put, List.setIfInBounds_toArray, List.set_cons_zero, List.set_cons_succ])
          refine wpAnyH_take (i := 6) (oi := ⟨some 39, _, _, _, _, _⟩) (v := ?_) rfl (by kernel_rfl) (by kernel_rfl) (by kernel_rfl) (fun _ _ _ h => h) (Or.inl ⟨by simp [Region.wanted, yielded, undef], ?_⟩) (by assumption) ?_
          rotate_left
          · ((intro w hSw; (try dsimp only at hSw); go_simp) <;> with_reducible rfl)
          (try simp only [Act.put, List.setIfInBounds_toArray, List.set_cons_zero, List.set_cons_succ])
          refine wpAnyH_take (i := 7) (oi := ⟨some 40, _, _, _, _, _⟩) (v := undef) rfl (by kernel_rfl) (by kernel_rfl) (by kernel_rfl) (fun _ _ _ h => h) (Or.inr ⟨by simp [Region.wanted, yielded, undef], rfl⟩) (by assumption) ?_
          (try simp only [Act.put, List.setIfInBounds_toArray, List.set_cons_zero, List.set_cons_succ])
          refine wpAnyH_take (i := 8) (oi := ⟨some 41, _, _, _, _, _⟩) (v := undef) rfl (by kernel_rfl) (by kernel_rfl) (by kernel_rfl) (fun _ _ _ h => h) (Or.inr ⟨by simp [Region.wanted, yielded, undef], rfl⟩) (by assumption) ?_
          (try simp only [Act.put, List.setIfInBounds_toArray, List.set_cons_zero, List.set_cons_succ])
          refine wpAnyH_take (i := 9) (oi := ⟨some 42, _, _, _, _, _⟩) (v := undef) rfl (by kernel_rfl) (by kernel_rfl) (by kernel_rfl) (fun _ _ _ h => h) (Or.inr ⟨by simp [Region.wanted, yielded, undef], rfl⟩) (by assumption) ?_
          (try simp only [Act.put, List.setIfInBounds_toArray, List.set_cons_zero, List.set_cons_succ])
          refine wpAnyH_take (i := 10) (oi := ⟨some 43, _, _, _, _, _⟩) (v := undef) rfl (by kernel_rfl) (by kernel_rfl) (by kernel_rfl) (fun _ _ _ h => h) (Or.inr ⟨by simp [Region.wanted, yielded, undef], rfl⟩) (by assumption) ?_
          (try simp only [Act.put, List.setIfInBounds_toArray, List.set_cons_zero, List.set_cons_succ])
          refine wpAnyH_take (i := 11) (oi := ⟨some 44, _, _, _, _, _⟩) (v := undef) rfl (by kernel_rfl) (by kernel_rfl) (by kernel_rfl) (fun _ _ _ h => h) (Or.inr ⟨by simp [Region.wanted, yielded, undef], rfl⟩) (by assumption) ?_
          (try simp only [Act.put, List.setIfInBounds_toArray, List.set_cons_zero, List.set_cons_succ])
          refine wpAnyH_take (i := 12) (oi := ⟨some 45, _, _, _, _, _⟩) (v := undef) rfl (by kernel_rfl) (by kernel_rfl) (by kernel_rfl) (fun _ _ _ h => h) (Or.inr ⟨by simp [Region.wanted, yielded, undef], rfl⟩) (by assumption) ?_
          (try simp only [Act.put, List.setIfInBounds_toArray, List.set_cons_zero, List.set_cons_succ])
          refine wpAnyH_take (i := 13) (oi := ⟨some 46, _, _, _, _, _⟩) (v := undef) rfl (by kernel_rfl) (by kernel_rfl) (by kernel_rfl) (fun _ _ _ h => h) (Or.inr ⟨by simp [Region.wanted, yielded, undef], rfl⟩) (by assumption) ?_
          (try simp only [Act.put, List.setIfInBounds_toArray, List.set_cons_zero, List.set_cons_succ])
          refine wpAnyH_take (i := 14) (oi := ⟨some 47, _, _, _, _, _⟩) (v := undef) rfl (by kernel_rfl) (by kernel_rfl) (by kernel_rfl) (fun _ _ _ h => h) (Or.inr ⟨by simp [Region.wanted, yielded, undef], rfl⟩) (by assumption) ?_
          (try simp only [Act.put, List.setIfInBounds_toArray, List.set_cons_zero, List.set_cons_succ])
          refine wpAnyH_take (i := 15) (oi := ⟨some 48, _, _, _, _, _⟩) (v := undef) rfl (by kernel_rfl) (by kernel_rfl) (by kernel_rfl) (fun _ _ _ h => h) (Or.inr ⟨by simp [Region.wanted, yielded, undef], rfl⟩) (by assumption) ?_
          (try simp only [Act.put, List.setIfInBounds_toArray, List.set_cons_zero, List.set_cons_succ])
          refine wpAnyH_take (i := 16) (oi := ⟨some 49, _, _, _, _, _⟩) (v := undef) rfl (by kernel_rfl) (by kernel_rfl) (by kernel_rfl) (fun _ _ _ h => h) (Or.inr ⟨by simp [Region.wanted, yielded, undef], rfl⟩) (by assumption) ?_
          (try simp only [Act.put, List.setIfInBounds_toArray, List.set_cons_zero, List.set_cons_succ])
          refine wpAnyH_take (i := 17) (oi := ⟨some 50, _, _, _, _, _⟩) (v := ?_) rfl (by kernel_rfl) (by kernel_rfl) (by kernel_rfl) (fun _ _ _ h => h) (Or.inl ⟨by simp [Region.wanted, yielded, undef], ?_⟩) (by assumption) ?_
          rotate_left
          · ((intro w hSw; (try dsimp only at hSw); go_simp) <;> with_reducible rfl)
          (try simp only [Act.put, List.setIfInBounds_toArray, List.set_cons_zero, List.set_cons_succ])
          refine wpAnyH_take (i := 18) (oi := ⟨some 51, _, _, _, _, _⟩) (v := ?_) rfl (by kernel_rfl) (by kernel_rfl) (by kernel_rfl) (fun _ _ _ h => h) (Or.inl ⟨by simp [Region.wanted, yielded, undef], ?_⟩) (by assumption) ?_
          rotate_left
          · ((intro w hSw; (try dsimp only at hSw); go_simp) <;> with_reducible rfl)
          (try simp only [Act.put, List.setIfInBounds_toArray, List.set_cons_zero, List.set_cons_succ])
          refine wpAnyH_done (by kernel_rfl) ?_ _
          refine NoPanic.normal ?_
          have HB2 := Lib.hid (below_after HW.out.drew hb2)
          have e0 := (hb2.block w.heap.size (by simp only [World.size_drew, World.size_alloc]; omega)).trans ((by rw [show (World.drew (wr.alloc (.cells #[.string x.key, .string x.old, .string x.new, .bool x.had, .bool x.has] 145))).heap = (wr.alloc (.cells #[.string x.key, .string x.old, .string x.new, .bool x.had, .bool x.has] 145)).heap from rfl]; exact (Below.block (B := wr.heap.size) (by repeat (first | exact Below.refl _ _ | assumption | refine Below.drew ?_ | refine below_drewN ?_ _ | refine Below.setCell ?_ (by first | exact Nat.le_refl _ | exact Below.size (by assumption) | (simp; done) | (simp; omega) | omega) _ | refine Below.alloc ?_ (by first | exact Nat.le_refl _ | exact Below.size (by assumption) | (simp; done) | (simp; omega) | omega) _)) _ (by omega)).trans HE.out : _ = some _))
          have HE2 := Lib.hid e0
          clear hb2 e0
          go_wp2_with fail
          go_roundw
          case rel => exact ⟨1, by omega, by go_num, HST.out HPB.out (fun h => by omega), HE2.out, HB2.out⟩
          case measure => simp [intOf]; omega
    · go_wp2
      go_ret
      exact ⟨by rw [show r = true from HR.out.symm.trans (okDs_true HG.out (by omega))]; rfl, hb⟩
end Go.Proofs.Ytlfnpnkpjdmonaa
