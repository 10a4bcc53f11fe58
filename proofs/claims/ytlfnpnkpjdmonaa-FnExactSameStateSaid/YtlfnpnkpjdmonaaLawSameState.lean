/- For every two states, the program's SameState answers as the reference's does, and leaves both as they were; the law's own bound of sizes stands ahead. -/
import Derived.Test.YtlfnpnkpjdmonaaFacts
import Derived.Test.YtlfnpnkpjdmonaaState
import Derived.ProofKit
import Derived.OpenShut
import Derived.ShutString
import Derived.ChangeOld
import Derived.Carry
import Derived.SizedLaws
set_option linter.unusedVariables false
set_option linter.unusedSimpArgs false
namespace Go.Proofs.Ytlfnpnkpjdmonaa.lawSameState
open Go.ChangeShapes Go.WideShapes Go.ChangeAt Go.RowKit Go.Joins Go.Deep
open Go.ChangeMaps (open_string shut_string)

theorem cellsKept : Try.prog.cellsOf 191 = 3 := by kernel_rfl
theorem cellsState : Try.prog.cellsOf 56 = 2 := by kernel_rfl
theorem cellsPs : Try.prog.cellsOf 53 = 1 := by kernel_rfl
theorem cellsKs : Try.prog.cellsOf 54 = 1 := by kernel_rfl
set_option maxRecDepth 100000 in
theorem open_kepts {H : Type} {enc : TypeId × Value → H} {W : World} {held : Bool} {n : Nat} {v : Value} {y : DataW H × List MemPlace} (h : DataW.trod enc Try.prog W 0 (fun _ => true) held n 54 [v] = some y) :
    ∃ (A : Option Addr) (c : Nat) (xs : List Kp), v = .slice A xs.length c ∧ KRd W W.heap.size A xs ∧ xs.length ≤ maxLen ∧ ∀ p ∈ xs, KGood p := by
  obtain ⟨A, c, xs, h1, h2, h3, h4⟩ := open_rows (good := fun k : Kp => KGood k ∧ Rd W W.heap.size k.A (flat encP k.ps)) (en := encK) Try.underlying54 Try.underlying191 (by kernel_rfl) cellsKept (by simp) (fun n g hg => by
    obtain ⟨y0, h0⟩ := hg 0 _ rfl
    obtain ⟨y1, h1⟩ := hg 1 _ rfl
    obtain ⟨y2, h2⟩ := hg 2 _ rfl
    obtain ⟨s0, e0, _, l0⟩ := DataW.trod_string Try.underlying9 h0
    obtain ⟨z, e1, _⟩ := DataW.trod_int Try.underlying3 h1
    obtain ⟨A, c, ps, e2, hr, hl, hs⟩ := open_pairs h2
    simp only [List.cons.injEq, and_true] at e0 e1
    refine ⟨⟨s0, z, A, c, ps⟩, ⟨⟨l0, hl, hs⟩, hr⟩, rfl, fun j u hu => ?_⟩
    match j, hu with
    | 0, hu => simp [encK] at hu; rw [e0, hu]
    | 1, hu => simp [encK] at hu; rw [e1, hu]
    | 2, hu => simp [encK] at hu; rw [e2, hu]) (fun _ => rfl) h
  exact ⟨A, c, xs, h1, ⟨h2, fun k hk => (h4 k hk).2⟩, h3, fun k hk => (h4 k hk).1⟩
set_option maxRecDepth 100000 in
theorem open_state {H : Type} {enc : TypeId × Value → H} {W : World} {r : Reach} {b0 : Nat} {v : Value} {dt : DataW H} {p : List MemPlace} (hv : Value.okWide Try.prog W r b0 56 v) (hT : DataW.Trod enc Try.prog W 0 (fun _ => true) true 56 v dt p) :
    ∃ (A B : Option Addr) (c d : Nat) (ps : List Pr) (ks : List Kp), v = stV A ps.length c B ks.length d ∧
      (Rd W W.heap.size A (flat encP ps) ∧ ps.length ≤ maxLen ∧ ∀ p ∈ ps, p.1.size ≤ maxLen ∧ p.2.size ≤ maxLen) ∧ (KRd W W.heap.size B ks ∧ ks.length ≤ maxLen ∧ ∀ k ∈ ks, KGood k) := by
  obtain ⟨cs, rfl, hsz⟩ := okWide_struct Try.underlying56 hv
  obtain ⟨l⟩ := cs
  match l, hsz.trans cellsState with
  | [v0, v1], _ =>
    obtain ⟨fuel, hf⟩ := hT
    obtain ⟨ds, n, _, hx, _, hlen, hg⟩ := DataW.trod_struct Try.underlying56 hf
    match ds, hlen with
    | [y0, y1], _ =>
      have h0 : DataW.trod enc Try.prog W 0 (fun _ => true) true n 53 [v0] = some y0 := by have := hg 0 _ rfl; simpa [cellsPs, cellsKs, Value.cells] using this
      have h1 : DataW.trod enc Try.prog W 0 (fun _ => true) true n 54 [v1] = some y1 := by have := hg 1 _ rfl; simpa [cellsPs, cellsKs, Value.cells] using this
      obtain ⟨A, c, ps, rfl, hx, hl, hs⟩ := open_pairs h0
      obtain ⟨B, d, ks, rfl, hy, hl', hs'⟩ := open_kepts h1
      exact ⟨A, B, c, d, ps, ks, rfl, ⟨hx, hl, hs⟩, hy, hl', hs'⟩
theorem sameSt_data {ps ps' : List Pr} {ks ks' ls ls' : List Kp} (h : ls.map Kp.data = ks.map Kp.data) (h' : ls'.map Kp.data = ks'.map Kp.data) : sameSt ps ps' ls ls' = sameSt ps ps' ks ks' := by unfold sameSt; rw [h, h']
theorem ps_le {ks ys : List Kp} (h : ys.map Kp.data = ks.map Kp.data) (hk : ∀ k ∈ ks, k.ps.length ≤ 1048576) : ∀ k ∈ ys, k.ps.length ≤ 1048576 := fun k hm => by
  have h1 : k.data ∈ ks.map Kp.data := by rw [← h]; exact List.mem_map_of_mem hm
  obtain ⟨k', h2, h3⟩ := List.mem_map.1 h1
  simp only [Kp.data, Prod.mk.injEq] at h3
  rw [← h3.2.2]
  exact hk k' h2
/-- A state as it lies in memory: its two slices, what they hold. -/
structure St where
  A : Option Addr
  B : Option Addr
  c : Nat
  d : Nat
  ps : List Pr
  ks : List Kp
@[reducible] def St.v (s : St) : Value := stV s.A s.ps.length s.c s.B s.ks.length s.d
structure St.Rd (s : St) (w : World) : Prop where
  a : Go.Proofs.Ytlfnpnkpjdmonaa.Rd w w.heap.size s.A (flat encP s.ps)
  b : KRd w w.heap.size s.B s.ks
theorem St.Rd.next {s : St} {w w' : World} (h : s.Rd w) (hb : Below w.heap.size w w') : s.Rd w' := ⟨h.a.next hb, h.b.next hb⟩
structure St.Sm (s : St) : Prop where
  a : s.ps.length ≤ 1048576
  b : s.ks.length ≤ 1048576
  k : ∀ k ∈ s.ks, k.ps.length ≤ 1048576
def St.Like (s t : St) : Prop := t.ps = s.ps ∧ t.ks.map Kp.data = s.ks.map Kp.data
theorem St.Like.sm {s t : St} (h : s.Like t) (hs : s.Sm) : t.Sm := ⟨by rw [h.1]; exact hs.a, by rw [tks_len h.2]; exact hs.b, ps_le h.2 hs.k⟩
theorem toSt_any (s : St) (w : World) (h : s.Rd w) (hs : s.Sm) : Calls Try.prog 44 #[s.v] w fun e w' => ∃ t : St, e = .returned t.v ∧ s.Like t ∧ t.Rd w' ∧ Below w.heap.size w w' :=
  (toState_any _ _ _ _ _ _ w h.a h.b hs.a hs.b hs.k).mono fun e w' ⟨A, B, c, d, ys, he, hd, ho, hk, hb⟩ => ⟨⟨A, B, c, d, s.ps, ys⟩, he, ⟨rfl, hd⟩, ⟨Go.Proofs.Ytlfnpnkpjdmonaa.Rd.own ho, hk.rd⟩, hb⟩
theorem szSt_any (s : St) (left : Int) (w : World) (h : s.Rd w) (hl : s.ps.length ≤ maxLen ∧ s.ks.length ≤ maxLen) (hs : (∀ p ∈ s.ps, p.1.size ≤ maxLen ∧ p.2.size ≤ maxLen) ∧ ∀ k ∈ s.ks, KGood k) (h0 : 0 ≤ left) (h1 : left ≤ 1048576) :
    Calls Try.prog 42 #[s.v, .int .i64 left] w fun e w' => ∃ n : Int, e = .returned (.int .i64 n) ∧ n ≤ left ∧ (0 ≤ n → s.Sm) ∧ Below w.heap.size w w' :=
  (szState_any _ _ _ _ _ _ left w h.a h.b hl.1 hl.2 hs.1 hs.2 h0 h1).mono fun e w' ⟨n, he, hn, hm, hb⟩ => ⟨n, he, hn, fun h => ⟨(hm h).1, (hm h).2.1, (hm h).2.2⟩, hb⟩
def St.same (s t : St) : Bool := sameSt s.ps t.ps s.ks t.ks
theorem St.same_like {s t s' t' : St} (h : s.Like s') (h' : t.Like t') : s'.same t' = s.same t := by unfold St.same sameSt; rw [h.1, h.2, h'.1, h'.2]
theorem spec_any (s t : St) (w : World) (h : s.Rd w) (h' : t.Rd w) (hs : s.Sm) (ht : t.Sm) (r : Bool) (hr : s.same t = r) : Calls Try.prog 43 #[s.v, t.v] w fun e w' => e = .returned (.bool r) ∧ Below w.heap.size w w' := by
  subst hr
  exact specSameState_any _ _ _ _ _ _ _ _ _ _ _ _ w h.a h.b h'.a h'.b hs.a ht.a hs.b ht.b hs.k ht.k
theorem impl_any (s t : St) (w : World) (h : s.Rd w) (h' : t.Rd w) (hs : s.Sm) (ht : t.Sm) (r : Bool) (hr : s.same t = r) : Calls Try.prog 45 #[s.v, t.v] w fun e w' => e = .returned (.bool r) ∧ Below w.heap.size w w' := by
  subst hr
  exact implSameState_any _ _ _ _ _ _ _ _ _ _ _ _ w h.a h.b h'.a h'.b hs.a ht.a hs.b ht.b hs.k ht.k
theorem eq_any (s t : St) (w : World) (h : s.Rd w) (h' : t.Rd w) (hs : s.Sm) (hl : t.Like s) : Calls Try.prog 46 #[s.v, t.v] w fun e w' => e = .returned (.bool true) ∧ Below w.heap.size w w' := by
  obtain ⟨A, B, c, d, ps, ks⟩ := s
  obtain ⟨A', B', c', d', ps', ks'⟩ := t
  obtain ⟨h1, h2⟩ := hl
  simp only at h1
  subst h1
  exact eqState_eq _ _ _ _ _ _ _ _ _ _ _ w h2 h.a h.b h'.a h'.b hs.a hs.b hs.k

theorem like_like {s t u : St} (h : s.Like t) (h' : s.Like u) : u.Like t := ⟨h.1.trans h'.1.symm, h.2.trans h'.2.symm⟩
set_option maxRecDepth 100000 in
set_option maxHeartbeats 2000000 in
theorem law_any (s t : St) (w : World) (hx : s.Rd w) (hy : t.Rd w) (hl : s.ps.length ≤ maxLen ∧ s.ks.length ≤ maxLen) (hs : (∀ p ∈ s.ps, p.1.size ≤ maxLen ∧ p.2.size ≤ maxLen) ∧ ∀ k ∈ s.ks, KGood k) (hl' : t.ps.length ≤ maxLen ∧ t.ks.length ≤ maxLen) (hs' : (∀ p ∈ t.ps, p.1.size ≤ maxLen ∧ p.2.size ≤ maxLen) ∧ ∀ k ∈ t.ks, KGood k) :
    Calls Try.prog 8 #[s.v, t.v] w fun e w' => e = .returned (.bool true) ∧ Below w.heap.size w w' := by
  have HX := Lib.hid hx
  have HY := Lib.hid hy
  have HS := Lib.hid (And.intro hs hs')
  have HL := Lib.hid (And.intro hl hl')
  generalize hr : s.same t = r
  have HR := Lib.hid hr
  clear hx hy hs hs' hl hl' hr
  have hrr : (r != r) = false := by cases r <;> rfl
  go_enter Try.func8, Try.ntmps8
  go_wp2_with fail
  refine (szSt_any s _ _ (HX.out.next (by repeat (first | exact Below.refl _ _ | assumption | refine Below.drew ?_ | refine below_drewN ?_ _ | refine Below.setCell ?_ (by first | exact Nat.le_refl _ | exact Below.size (by assumption) | (simp; done) | (simp; omega) | omega) _ | refine Below.alloc ?_ (by first | exact Nat.le_refl _ | exact Below.size (by assumption) | (simp; done) | (simp; omega) | omega) _))) HL.out.1 HS.out.1 (by omega) (by omega)).mono ?_
  rintro e w1 ⟨n, rfl, hn1, hn2, hb1⟩
  obtain ⟨hc1, hf1⟩ := bcell hb1; have hB1 : Below w.heap.size w w1 := Below.trans (by repeat (first | exact Below.refl _ _ | assumption | refine Below.drew ?_ | refine below_drewN ?_ _ | refine Below.setCell ?_ (by first | exact Nat.le_refl _ | exact Below.size (by assumption) | (simp; done) | (simp; omega) | omega) _ | refine Below.alloc ?_ (by first | exact Nat.le_refl _ | exact Below.size (by assumption) | (simp; done) | (simp; omega) | omega) _)) (hb1.mono (by first | exact Nat.le_refl _ | exact Below.size (by assumption) | (simp; done) | (simp; omega) | omega)); have hz1 := hB1.size; have hy1 := hb1.size; (try simp only [World.size_alloc, World.size_setCell, World.size_drew] at hy1)
  have hq1 : w.heap.size + 1 < w1.heap.size := by omega
  have hq1' : w.heap.size < w1.heap.size := by omega
  have HN := Lib.hid hn2
  clear hn2
  by_cases h0 : n < 0
  · go_wp2
    go_ret
    exact ⟨rfl, hB1⟩
  · have HSM := Lib.hid (HN.out (by omega))
    clear HN
    go_wp2_with fail
    refine (szSt_any t _ _ (HY.out.next (by repeat (first | exact Below.refl _ _ | assumption | refine Below.drew ?_ | refine below_drewN ?_ _ | refine Below.setCell ?_ (by first | exact Nat.le_refl _ | exact Below.size (by assumption) | (simp; done) | (simp; omega) | omega) _ | refine Below.alloc ?_ (by first | exact Nat.le_refl _ | exact Below.size (by assumption) | (simp; done) | (simp; omega) | omega) _))) HL.out.2 HS.out.2 (by omega) (by omega)).mono ?_
    rintro e w2 ⟨m, rfl, hm1, hm2, hb2⟩
    obtain ⟨hc2, hf2⟩ := bcell hb2; have hB2 : Below w.heap.size w w2 := Below.trans (by repeat (first | exact Below.refl _ _ | assumption | refine Below.drew ?_ | refine below_drewN ?_ _ | refine Below.setCell ?_ (by first | exact Nat.le_refl _ | exact Below.size (by assumption) | (simp; done) | (simp; omega) | omega) _ | refine Below.alloc ?_ (by first | exact Nat.le_refl _ | exact Below.size (by assumption) | (simp; done) | (simp; omega) | omega) _)) (hb2.mono (by first | exact Nat.le_refl _ | exact Below.size (by assumption) | (simp; done) | (simp; omega) | omega)); have hz2 := hB2.size; have hy2 := hb2.size; (try simp only [World.size_alloc, World.size_setCell, World.size_drew] at hy2)
    have hq2 : w.heap.size + 1 < w2.heap.size := by omega
    have hq2' : w.heap.size < w2.heap.size := by omega
    have HN := Lib.hid hm2
    clear hm2
    by_cases h1 : m < 0
    · go_wp2
      go_ret
      exact ⟨rfl, hB2⟩
    · have HTM := Lib.hid (HN.out (by omega))
      clear HN
      have k0 : w2.cell? ⟨w.heap.size, 0, none⟩ = some (.slice s.A s.ps.length s.c) := by simp [go_sem, *]
      have k1 : w2.cell? ⟨w.heap.size, 1, none⟩ = some (.slice s.B s.ks.length s.d) := by simp [go_sem, *]
      have k2 : w2.cell? ⟨w.heap.size + 1, 0, none⟩ = some (.slice t.A t.ps.length t.c) := by simp [go_sem, *]
      have k3 : w2.cell? ⟨w.heap.size + 1, 1, none⟩ = some (.slice t.B t.ks.length t.d) := by simp [go_sem, *]
      clear hc1 hf1 hc2 hf2
      go_wp2_with fail
      go_region_held3 (fun w' => w'.cell? ⟨w.heap.size, 0, none⟩ = some (.slice s.A s.ps.length s.c) ∧ w'.cell? ⟨w.heap.size, 1, none⟩ = some (.slice s.B s.ks.length s.d) ∧ w'.cell? ⟨w.heap.size + 1, 0, none⟩ = some (.slice t.A t.ps.length t.c) ∧ w'.cell? ⟨w.heap.size + 1, 1, none⟩ = some (.slice t.B t.ks.length t.d))
        (refine ⟨?_, ?_, ?_, ?_⟩ <;> first | assumption | (exact ((hb5.cell (p := ⟨_, _, none⟩) (by dsimp only; omega)).trans ((hb4.cell (p := ⟨_, _, none⟩) (by dsimp only; omega)).trans ((hb3.cell (p := ⟨_, _, none⟩) (by simp; omega)).trans (by assumption))))) | (exact ((hb3.cell (p := ⟨_, _, none⟩) (by simp; omega)).trans (by assumption))) | (exact ((hb4.cell (p := ⟨_, _, none⟩) (by dsimp only; omega)).trans ((hb3.cell (p := ⟨_, _, none⟩) (by simp; omega)).trans (by assumption)))))
        (first
          | (go_at_call_of 44 (Value.slice s.A s.ps.length s.c); refine (toSt_any s _ (HX.out.next (by repeat (first | exact Below.refl _ _ | assumption | refine Below.drew ?_ | refine below_drewN ?_ _ | refine Below.setCell ?_ (by first | exact Nat.le_refl _ | exact Below.size (by assumption) | (simp; done) | (simp; omega) | omega) _ | refine Below.alloc ?_ (by first | exact Nat.le_refl _ | exact Below.size (by assumption) | (simp; done) | (simp; omega) | omega) _))) HSM.out).mono ?_; rintro e w3 ⟨s1, rfl, hl3, hr3, hb3⟩; have hs3 : w2.heap.size ≤ w3.heap.size := (by have := hb3.size; simpa using this); have hB3 := below_after (below_drewN hB2 1) hb3)
          | (go_at_call_of 44 (Value.slice t.A t.ps.length t.c); refine (toSt_any t _ (HY.out.next (by exact hB3)) HTM.out).mono ?_; rintro e w4 ⟨t1, rfl, hl4, hr4, hb4⟩; have hs4 : w3.heap.size ≤ w4.heap.size := hb4.size; have hB4 := below_after hB3 hb4)
          | (go_at_call 43; refine (spec_any s1 t1 _ (hr3.next hb4) hr4 (hl3.sm HSM.out) (hl4.sm HTM.out) _ ((St.same_like hl3 hl4).trans HR.out)).mono ?_; rintro e w5 ⟨rfl, hb5⟩))
      have hs5 : w4.heap.size ≤ w5.heap.size := hb5.size
      have hB5 := below_after hB4 hb5
      have K : w5.cell? ⟨w.heap.size, 0, none⟩ = some (.slice s.A s.ps.length s.c) ∧ w5.cell? ⟨w.heap.size, 1, none⟩ = some (.slice s.B s.ks.length s.d) ∧ w5.cell? ⟨w.heap.size + 1, 0, none⟩ = some (.slice t.A t.ps.length t.c) ∧ w5.cell? ⟨w.heap.size + 1, 1, none⟩ = some (.slice t.B t.ks.length t.d) := by
        refine ⟨?_, ?_, ?_, ?_⟩ <;> exact ((hb5.cell (p := ⟨_, _, none⟩) (by dsimp only; omega)).trans ((hb4.cell (p := ⟨_, _, none⟩) (by dsimp only; omega)).trans ((hb3.cell (p := ⟨_, _, none⟩) (by simp; omega)).trans (by assumption))))
      clear hb1 hb2 hb3 hb4 hb5 hr3 hr4 hl3 hl4 hB3 hB4 k0 k1 k2 k3
      obtain ⟨k0, k1, k2, k3⟩ := K
      have hq5 : w.heap.size + 1 < w5.heap.size := by omega
      have hq5' : w.heap.size < w5.heap.size := by omega
      clear hq1 hq1' hq2 hq2' hz1 hz2 hy1 hy2 hs3 hs4 hs5 hB1 hB2
      go_wp2_with fail
      refine (toSt_any s _ (HX.out.next (by exact hB5)) HSM.out).mono ?_
      rintro e w6 ⟨s6, rfl, hl6, hr6, hb6⟩
      obtain ⟨hc6, hf6⟩ := bcell hb6; have hB6 : Below w.heap.size w w6 := Below.trans (by repeat (first | exact Below.refl _ _ | assumption | refine Below.drew ?_ | refine below_drewN ?_ _ | refine Below.setCell ?_ (by first | exact Nat.le_refl _ | exact Below.size (by assumption) | (simp; done) | (simp; omega) | omega) _ | refine Below.alloc ?_ (by first | exact Nat.le_refl _ | exact Below.size (by assumption) | (simp; done) | (simp; omega) | omega) _)) (hb6.mono (by first | exact Nat.le_refl _ | exact Below.size (by assumption) | (simp; done) | (simp; omega) | omega)); have hz6 := hB6.size; have hy6 := hb6.size; (try simp only [World.size_alloc, World.size_setCell, World.size_drew] at hy6)
      have hq6 : w.heap.size + 1 < w6.heap.size := by omega
      have hq6' : w.heap.size < w6.heap.size := by omega
      have HL6 := Lib.hid hl6
      have HR6 := Lib.hid hr6
      clear hl6 hr6
      go_wp2_with fail
      refine (toSt_any t _ (HY.out.next (by repeat (first | exact Below.refl _ _ | assumption | refine Below.drew ?_ | refine below_drewN ?_ _ | refine Below.setCell ?_ (by first | exact Nat.le_refl _ | exact Below.size (by assumption) | (simp; done) | (simp; omega) | omega) _ | refine Below.alloc ?_ (by first | exact Nat.le_refl _ | exact Below.size (by assumption) | (simp; done) | (simp; omega) | omega) _))) HTM.out).mono ?_
      rintro e w7 ⟨t7, rfl, hl7, hr7, hb7⟩
      obtain ⟨hc7, hf7⟩ := bcell hb7; have hB7 : Below w.heap.size w w7 := Below.trans (by repeat (first | exact Below.refl _ _ | assumption | refine Below.drew ?_ | refine below_drewN ?_ _ | refine Below.setCell ?_ (by first | exact Nat.le_refl _ | exact Below.size (by assumption) | (simp; done) | (simp; omega) | omega) _ | refine Below.alloc ?_ (by first | exact Nat.le_refl _ | exact Below.size (by assumption) | (simp; done) | (simp; omega) | omega) _)) (hb7.mono (by first | exact Nat.le_refl _ | exact Below.size (by assumption) | (simp; done) | (simp; omega) | omega)); have hz7 := hB7.size; have hy7 := hb7.size; (try simp only [World.size_alloc, World.size_setCell, World.size_drew] at hy7)
      have HL7 := Lib.hid hl7
      have HR7 := Lib.hid hr7
      have HR67 := Lib.hid ((HR6.out.next ((Below.refl _ _).alloc (Nat.le_refl _) (.cells #[.slice s6.A s6.ps.length s6.c, .slice s6.B s6.ks.length s6.d] 62))).next hb7)
      clear hl7 hr7
      have hq7 : w.heap.size + 1 < w7.heap.size := by omega
      have hq7' : w.heap.size < w7.heap.size := by omega
      have hq76 : w6.heap.size < w7.heap.size := by omega
      go_wp2_with fail
      refine (impl_any s6 t7 _ (HR67.out.next (by repeat (first | exact Below.refl _ _ | assumption | refine Below.drew ?_ | refine below_drewN ?_ _ | refine Below.setCell ?_ (by first | exact Nat.le_refl _ | exact Below.size (by assumption) | (simp; done) | (simp; omega) | omega) _ | refine Below.alloc ?_ (by first | exact Nat.le_refl _ | exact Below.size (by assumption) | (simp; done) | (simp; omega) | omega) _))) (HR7.out.next (by repeat (first | exact Below.refl _ _ | assumption | refine Below.drew ?_ | refine below_drewN ?_ _ | refine Below.setCell ?_ (by first | exact Nat.le_refl _ | exact Below.size (by assumption) | (simp; done) | (simp; omega) | omega) _ | refine Below.alloc ?_ (by first | exact Nat.le_refl _ | exact Below.size (by assumption) | (simp; done) | (simp; omega) | omega) _))) (HL6.out.sm HSM.out) (HL7.out.sm HTM.out) _ ((St.same_like HL6.out HL7.out).trans HR.out)).mono ?_
      rintro e w8 ⟨rfl, hb8⟩
      obtain ⟨hc8, hf8⟩ := bcell hb8; have hB8 : Below w.heap.size w w8 := Below.trans (by repeat (first | exact Below.refl _ _ | assumption | refine Below.drew ?_ | refine below_drewN ?_ _ | refine Below.setCell ?_ (by first | exact Nat.le_refl _ | exact Below.size (by assumption) | (simp; done) | (simp; omega) | omega) _ | refine Below.alloc ?_ (by first | exact Nat.le_refl _ | exact Below.size (by assumption) | (simp; done) | (simp; omega) | omega) _)) (hb8.mono (by first | exact Nat.le_refl _ | exact Below.size (by assumption) | (simp; done) | (simp; omega) | omega)); have hz8 := hB8.size; have hy8 := hb8.size; (try simp only [World.size_alloc, World.size_setCell, World.size_drew] at hy8)
      have HR68 := Lib.hid (HR67.out.next (below_after ((Below.refl _ _).alloc (Nat.le_refl _) (.cells #[.slice t7.A t7.ps.length t7.c, .slice t7.B t7.ks.length t7.d] 62)) hb8))
      have HR78 := Lib.hid (HR7.out.next (below_after ((Below.refl _ _).alloc (Nat.le_refl _) (.cells #[.slice t7.A t7.ps.length t7.c, .slice t7.B t7.ks.length t7.d] 62)) hb8))
      have K : w8.cell? ⟨w.heap.size, 0, none⟩ = some (.slice s.A s.ps.length s.c) ∧ w8.cell? ⟨w.heap.size, 1, none⟩ = some (.slice s.B s.ks.length s.d) ∧ w8.cell? ⟨w.heap.size + 1, 0, none⟩ = some (.slice t.A t.ps.length t.c) ∧ w8.cell? ⟨w.heap.size + 1, 1, none⟩ = some (.slice t.B t.ks.length t.d) ∧ w8.cell? ⟨w6.heap.size, 0, none⟩ = some (.slice s6.A s6.ps.length s6.c) ∧ w8.cell? ⟨w6.heap.size, 1, none⟩ = some (.slice s6.B s6.ks.length s6.d) ∧ w8.cell? ⟨w7.heap.size, 0, none⟩ = some (.slice t7.A t7.ps.length t7.c) ∧ w8.cell? ⟨w7.heap.size, 1, none⟩ = some (.slice t7.B t7.ks.length t7.d) := by
        refine ⟨?_, ?_, ?_, ?_, ?_, ?_, ?_, ?_⟩ <;> simp [go_sem, *]
      clear hb6 hb7 HR6 HR7 HR67 hc6 hc7 hc8 hf6 hf7 hf8 k0 k1 k2 k3
      obtain ⟨k0, k1, k2, k3, k4, k5, k6, k7⟩ := K
      have hq8 : w.heap.size + 1 < w8.heap.size := by omega
      have hq8' : w.heap.size < w8.heap.size := by omega
      have hq86 : w6.heap.size < w8.heap.size := by omega
      have hq87 : w7.heap.size < w8.heap.size := by omega
      clear hz6 hz7 hz8 hy6 hy7 hy8 hB6 hB7 hB5 hb8
      go_wp2_with fail
      go_region_held3 (fun w' => w'.cell? ⟨w.heap.size, 0, none⟩ = some (.slice s.A s.ps.length s.c) ∧ w'.cell? ⟨w.heap.size, 1, none⟩ = some (.slice s.B s.ks.length s.d) ∧ w'.cell? ⟨w.heap.size + 1, 0, none⟩ = some (.slice t.A t.ps.length t.c) ∧ w'.cell? ⟨w.heap.size + 1, 1, none⟩ = some (.slice t.B t.ks.length t.d) ∧ w'.cell? ⟨w6.heap.size, 0, none⟩ = some (.slice s6.A s6.ps.length s6.c) ∧ w'.cell? ⟨w6.heap.size, 1, none⟩ = some (.slice s6.B s6.ks.length s6.d) ∧ w'.cell? ⟨w7.heap.size, 0, none⟩ = some (.slice t7.A t7.ps.length t7.c) ∧ w'.cell? ⟨w7.heap.size, 1, none⟩ = some (.slice t7.B t7.ks.length t7.d))
        (refine ⟨?_, ?_, ?_, ?_, ?_, ?_, ?_, ?_⟩ <;> first | assumption | (exact ((hb9.cell (p := ⟨_, _, none⟩) (by simp; omega)).trans (by assumption))) | (exact ((hb10.cell (p := ⟨_, _, none⟩) (by dsimp only; omega)).trans ((hb9.cell (p := ⟨_, _, none⟩) (by simp; omega)).trans (by assumption)))))
        (first
          | (go_at_call 44; refine (toSt_any s _ (HX.out.next (by repeat (first | exact Below.refl _ _ | assumption | refine Below.drew ?_ | refine below_drewN ?_ _ | refine Below.setCell ?_ (by first | exact Nat.le_refl _ | exact Below.size (by assumption) | (simp; done) | (simp; omega) | omega) _ | refine Below.alloc ?_ (by first | exact Nat.le_refl _ | exact Below.size (by assumption) | (simp; done) | (simp; omega) | omega) _))) HSM.out).mono ?_; rintro e w9 ⟨s9, rfl, hl9, hr9, hb9⟩; have hs9 : w8.heap.size ≤ w9.heap.size := (by have := hb9.size; simpa using this); have hB9 := below_after (below_drewN hB8 1) hb9)
          | (go_at_call 46; refine (eq_any s6 s9 _ ((HR68.out.next (below_drewN (Below.refl _ _) 1)).next hb9) hr9 (HL6.out.sm HSM.out) (like_like HL6.out hl9)).mono ?_; rintro e w10 ⟨rfl, hb10⟩))
      have hs10 : w9.heap.size ≤ w10.heap.size := hb10.size
      have hB10 := below_after hB9 hb10
      have K : w10.cell? ⟨w.heap.size, 0, none⟩ = some (.slice s.A s.ps.length s.c) ∧ w10.cell? ⟨w.heap.size, 1, none⟩ = some (.slice s.B s.ks.length s.d) ∧ w10.cell? ⟨w.heap.size + 1, 0, none⟩ = some (.slice t.A t.ps.length t.c) ∧ w10.cell? ⟨w.heap.size + 1, 1, none⟩ = some (.slice t.B t.ks.length t.d) ∧ w10.cell? ⟨w6.heap.size, 0, none⟩ = some (.slice s6.A s6.ps.length s6.c) ∧ w10.cell? ⟨w6.heap.size, 1, none⟩ = some (.slice s6.B s6.ks.length s6.d) ∧ w10.cell? ⟨w7.heap.size, 0, none⟩ = some (.slice t7.A t7.ps.length t7.c) ∧ w10.cell? ⟨w7.heap.size, 1, none⟩ = some (.slice t7.B t7.ks.length t7.d) := by
        refine ⟨?_, ?_, ?_, ?_, ?_, ?_, ?_, ?_⟩ <;> exact ((hb10.cell (p := ⟨_, _, none⟩) (by dsimp only; omega)).trans ((hb9.cell (p := ⟨_, _, none⟩) (by simp; omega)).trans (by assumption)))
      have HR710 := Lib.hid ((HR78.out.next (below_drewN (Below.refl _ _) 1)).next (below_after hb9 hb10))
      clear hb9 hb10 hl9 hr9 hB9 k0 k1 k2 k3 k4 k5 k6 k7
      obtain ⟨k0, k1, k2, k3, k4, k5, k6, k7⟩ := K
      have hq10 : w.heap.size + 1 < w10.heap.size := by omega
      have hq10' : w.heap.size < w10.heap.size := by omega
      have hq106 : w6.heap.size < w10.heap.size := by omega
      have hq107 : w7.heap.size < w10.heap.size := by omega
      clear hs9 hs10
      go_wp2_with fail
      go_region_held3 (fun w' => w'.cell? ⟨w.heap.size, 0, none⟩ = some (.slice s.A s.ps.length s.c) ∧ w'.cell? ⟨w.heap.size, 1, none⟩ = some (.slice s.B s.ks.length s.d) ∧ w'.cell? ⟨w.heap.size + 1, 0, none⟩ = some (.slice t.A t.ps.length t.c) ∧ w'.cell? ⟨w.heap.size + 1, 1, none⟩ = some (.slice t.B t.ks.length t.d) ∧ w'.cell? ⟨w6.heap.size, 0, none⟩ = some (.slice s6.A s6.ps.length s6.c) ∧ w'.cell? ⟨w6.heap.size, 1, none⟩ = some (.slice s6.B s6.ks.length s6.d) ∧ w'.cell? ⟨w7.heap.size, 0, none⟩ = some (.slice t7.A t7.ps.length t7.c) ∧ w'.cell? ⟨w7.heap.size, 1, none⟩ = some (.slice t7.B t7.ks.length t7.d))
        (refine ⟨?_, ?_, ?_, ?_, ?_, ?_, ?_, ?_⟩ <;> first | assumption | (exact ((hb11.cell (p := ⟨_, _, none⟩) (by simp; omega)).trans (by assumption))) | (exact ((hb12.cell (p := ⟨_, _, none⟩) (by dsimp only; omega)).trans ((hb11.cell (p := ⟨_, _, none⟩) (by simp; omega)).trans (by assumption)))))
        (first
          | (go_at_call 44; refine (toSt_any t _ (HY.out.next (by repeat (first | exact Below.refl _ _ | assumption | refine Below.drew ?_ | refine below_drewN ?_ _ | refine Below.setCell ?_ (by first | exact Nat.le_refl _ | exact Below.size (by assumption) | (simp; done) | (simp; omega) | omega) _ | refine Below.alloc ?_ (by first | exact Nat.le_refl _ | exact Below.size (by assumption) | (simp; done) | (simp; omega) | omega) _))) HTM.out).mono ?_; rintro e w11 ⟨s11, rfl, hl11, hr11, hb11⟩; have hs11 : w10.heap.size ≤ w11.heap.size := (by have := hb11.size; simpa using this); have hB11 := below_after (below_drewN hB10 1) hb11)
          | (go_at_call 46; refine (eq_any t7 s11 _ ((HR710.out.next (below_drewN (Below.refl _ _) 1)).next hb11) hr11 (HL7.out.sm HTM.out) (like_like HL7.out hl11)).mono ?_; rintro e w12 ⟨rfl, hb12⟩))
      have hB12 := below_after hB11 hb12
      clear hb11 hb12 hr11
      go_wp2_with fail
      go_ret
      exact ⟨rfl, hB12⟩

set_option maxRecDepth 100000 in
theorem lifted (os : Os) (started : os.Started) (H : Type) (enc : TypeId × Value → H) :
    ReturnsInHanded {} Try.checked os 8 .any (Rows.fnExactSameStateSpec.pre6 enc Try.prog Try.f8 Rows.fnExactSameStateRow.domain false) (Rows.fnExactSameStateSpec.post enc Try.prog Try.f8 false true false false) := by
  refine returnsInHanded_of_change_sized (C := Try.checked) Facts.own started (by kernel_rfl) Try.func8
    (ChangeSpec.witness6 (enc := enc) (C := Try.checked) false ⟨#[], #[.agg #[.slice none 0 0, .slice none 0 0], .agg #[.slice none 0 0, .slice none 0 0]], []⟩ 8 (by kernel_rfl) (by kernel_rfl) (by kernel_rfl) (by kernel_rfl)) ?_
  intro W base args ds gs before hval0 hW hcnd hsz0 _
  have hsz : (DataW.weightsEach Try.prog (Try.f8.params.toList ++ Rows.fnExactSameStateSpec.plain.varTypes Try.prog) (ds ++ gs)).all (· ≤ reachBytes) = true := hsz0
  have hval : ∀ (j : Nat) t v, Try.f8.params[j]? = some t → args[j]? = some v → Value.okWide Try.prog W .any base t v := hval0
  have hW' := hW
  obtain ⟨p, q, hA0, hV, rfl, hfz, hnd⟩ := hW
  have hA : DataW.TrodAll enc Try.prog W 0 (fun _ => true) true Try.f8.params.toList args.toList ds p := hA0
  rw [Try.params8] at hA hval hsz
  obtain ⟨rfl, rfl⟩ := trodVars_none hV
  have hltp : ∀ x ∈ p, x.block < W.heap.size := fun x hx => by simpa using hW'.lt x (by simp [hx])
  clear hA0 hval0 hsz0
  obtain ⟨v0, v1, d0, d1, p0, p1, rfl, rfl, rfl, h0, h1⟩ := trodAll_two hA
  have h0k := h0
  have h1k := h1
  obtain ⟨A, B, c, d, ps, ks, rfl, ⟨hx, hl, hs⟩, hy, hl', hs'⟩ := open_state (hval 0 56 v0 rfl rfl) h0
  obtain ⟨A2, B2, c2, d2, ps2, ks2, rfl, ⟨hx2, hl2, hs2⟩, hy2, hl2', hs2'⟩ := open_state (hval 1 56 v1 rfl rfl) h1
  refine (law_any ⟨A, B, c, d, ps, ks⟩ ⟨A2, B2, c2, d2, ps2, ks2⟩ W ⟨hx, hy⟩ ⟨hx2, hy2⟩ ⟨hl, hl'⟩ ⟨hs, hs'⟩ ⟨hl2, hl2'⟩ ⟨hs2, hs2'⟩).mono fun e W' ⟨he, bel⟩ => ?_
  subst he
  exact ⟨_, rfl, _, _, _, [], _, [], hW', trodAll_mk1 (shut_bool Try.underlying4 _), trodAll_mk2 (Below.trod Facts.laidOut (by kernel_rfl) (of_decide_eq_true (by kernel_rfl)) h0k bel (fun x hx => hltp x (List.mem_append_left _ hx))) (Below.trod Facts.laidOut (by kernel_rfl) (of_decide_eq_true (by kernel_rfl)) h1k bel (fun x hx => hltp x (List.mem_append_right _ hx))), rfl, bel.frame _, fun h => by cases h⟩
theorem named_ : Try.pinned.checked.prog.funcNamed Rows.fnExactSameStateRow.func = some 8 := by kernel_rfl
set_option maxHeartbeats 8000000 in
theorem closed_ : joinedFacts Try.pinned.checked.prog 8 Try.f8 Rows.fnExactSameStateSpec Rows.fnExactSameStateRow = true := by
  unfold joinedFacts
  with_reducible repeat' (refine Facts.and_t ?_ ?_)
  all_goals first
    | with_reducible exact Facts.laidOut
    | with_reducible exact Facts.mapsRowed
    | with_reducible exact Facts.stopsHeard
    | with_reducible exact Facts.mayEnter
    | (rw [Facts.plainKeys]; as_aux_lemma => kernel_rfl)
    | (rw [Facts.lifts]; as_aux_lemma => kernel_rfl)
    | (rw [Facts.make_]; as_aux_lemma => kernel_rfl)
    | as_aux_lemma => kernel_rfl
theorem inst_ : Try.f8.isInstance Try.pinned.checked.prog Rows.fnExactSameStateRow.origin Rows.fnExactSameStateRow.targs := of_decide_eq_true (by kernel_rfl)
theorem wrap_ : Try.f8.isWrapper Try.pinned.checked.prog Rows.fnExactSameStateRow.wrapper Rows.fnExactSameStateRow.mainSum := by unfold Func.isWrapper; first | (rw [if_pos (by decide +kernel)]; kernel_rfl) | (rw [if_neg (by decide +kernel)]; exact ⟨rfl, rfl⟩)
theorem over : Rows.fnExactSameStateRow.holds Try.pinned (OpenSpec.ofChange Rows.fnExactSameStateSpec) :=
  OpenClaim.holds_of_wide 8 Try.f8 rfl rfl rfl rfl rfl rfl rfl ⟨rfl, rfl, rfl, rfl, rfl⟩ rfl rfl rfl rfl rfl named_ Try.func8 closed_ inst_ wrap_
    (fun os started H enc _ => lifted os started H enc)
theorem proved : Rows.FnExactSameStateSaid := over
#print axioms proved
end Go.Proofs.Ytlfnpnkpjdmonaa.lawSameState
namespace Go.Proofs.Ytlfnpnkpjdmonaa
/-- The row, under a short name, for the claim. -/
theorem fnExactSameState_holds : Rows.FnExactSameStateSaid := lawSameState.proved
end Go.Proofs.Ytlfnpnkpjdmonaa
