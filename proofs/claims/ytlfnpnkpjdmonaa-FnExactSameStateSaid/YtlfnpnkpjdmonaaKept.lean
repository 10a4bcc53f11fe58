import Derived.Test.YtlfnpnkpjdmonaaPairs3
import Derived.Test.YtlfnpnkpjdmonaaOpenS
set_option linter.unusedVariables false
set_option linter.unusedSimpArgs false
namespace Go.Proofs.Ytlfnpnkpjdmonaa
open Go.RowKit

/-! ### snapshots of a state -/
structure Kp where
  name : ByteArray
  tick : Int
  A : Option Addr
  c : Nat
  ps : List Pr
def Kp.data (k : Kp) : ByteArray × Int × List Pr := (k.name, k.tick, k.ps)
def encK (k : Kp) : List Value := [.string k.name, .int .i64 k.tick, .slice k.A k.ps.length k.c]
@[reducible] def kpV (k : Kp) : Value := .agg #[.string k.name, .int .i64 k.tick, .slice k.A k.ps.length k.c]
theorem encK_len (k : Kp) : (encK k).length = 3 := rfl
/-- the cells of a list of them, and of what each holds -/
def KRd (w : World) (B : Nat) (A : Option Addr) (l : List Kp) : Prop := Rd w B A (flat encK l) ∧ ∀ k ∈ l, Rd w B k.A (flat encP k.ps)
theorem KRd.keep {w w' : World} {B : Nat} {A : Option Addr} {l : List Kp} (h : KRd w B A l) (hk : ∀ p : Addr, p.block < B → w'.cell? p = w.cell? p) : KRd w' B A l := ⟨h.1.keep hk, fun k hm => (h.2 k hm).keep hk⟩
theorem KRd.below {w w' : World} {B : Nat} {A : Option Addr} {l : List Kp} (h : KRd w B A l) (hb : Below B w w') : KRd w' B A l := h.keep fun _ hp => hb.cell hp
theorem KRd.more {w : World} {B B' : Nat} {A : Option Addr} {l : List Kp} (h : KRd w B A l) (hB : B ≤ B') : KRd w B' A l := ⟨h.1.more hB, fun k hm => (h.2 k hm).more hB⟩
theorem KRd.next {w w' : World} {A : Option Addr} {l : List Kp} (h : KRd w w.heap.size A l) (hb : Below w.heap.size w w') : KRd w' w'.heap.size A l := (h.below hb).more hb.size
theorem kp_at {l : List Kp} {i : Nat} (h : i < l.length) : (flat encK l)[i * 3]? = some (.string l[i].name) ∧ (flat encK l)[i * 3 + 1]? = some (.int .i64 l[i].tick) ∧ (flat encK l)[i * 3 + 2]? = some (.slice l[i].A l[i].ps.length l[i].c) :=
  ⟨by simpa using flat_get (j := 0) encK_len (List.getElem?_eq_getElem h) rfl, flat_get (j := 1) encK_len (List.getElem?_eq_getElem h) rfl, flat_get (j := 2) encK_len (List.getElem?_eq_getElem h) rfl⟩
theorem add_more (a : Addr) (i j : Nat) (hj : 0 < j) : a.add (i + j) = ⟨(a.add i).block, (a.add i).off + j, none⟩ := by
  unfold Addr.add
  by_cases hi : i = 0 <;> by_cases h : i + j = 0 <;> simp [hi] <;> omega
theorem Rd.kp {w : World} {B : Nat} {A : Option Addr} {l : List Kp} (h : Rd w B A (flat encK l)) {i : Nat} (hi : i < l.length) : ∃ ad, A = some ad ∧ ad.block < B ∧ w.cell? (ad.add (i * 3)) = some (.string l[i].name) ∧ w.cell? ⟨(ad.add (i * 3)).block, (ad.add (i * 3)).off + 1, none⟩ = some (.int .i64 l[i].tick) ∧ w.cell? ⟨(ad.add (i * 3)).block, (ad.add (i * 3)).off + 1 + 1, none⟩ = some (.slice l[i].A l[i].ps.length l[i].c) := by
  obtain ⟨ad, e, hb, hc⟩ := h (by
    intro h0
    have := flat_length encK_len l
    rw [h0] at this
    simp at this
    omega)
  exact ⟨ad, e, hb, hc _ _ (kp_at hi).1, add_more ad (i * 3) 1 (by omega) ▸ hc _ _ (kp_at hi).2.1, add_more ad (i * 3) 2 (by omega) ▸ hc _ _ (kp_at hi).2.2⟩

theorem szPairS_big (A : Option Addr) (c : Nat) (xs : List Pr) (left : Int) (w : World) (hx : Rd w w.heap.size A (flat encP xs)) (hl : xs.length ≤ maxLen) (h0 : 0 ≤ left) (h1 : left ≤ 1048576) (hs : ∀ p ∈ xs, p.1.size ≤ maxLen ∧ p.2.size ≤ maxLen) :
    Calls Try.prog 114 #[.slice A xs.length c, .int .i64 left] w fun e w' => ∃ n : Int, e = .returned (.int .i64 n) ∧ n ≤ left ∧ (0 ≤ n → xs.length ≤ 1048576) ∧ Below w.heap.size w w' :=
  (szPairS_any A c xs left w hx hl h0 h1 hs).mono fun e w' ⟨n, he, hn, hm, hb⟩ => ⟨n, he, hn, fun h => by have := (hm h).1; omega, hb⟩
theorem szKept_any (k : Kp) (left : Int) (w : World) (hx : Rd w w.heap.size k.A (flat encP k.ps)) (hl : k.ps.length ≤ maxLen) (h0 : 0 ≤ left) (h1 : left ≤ 1048576) (hn : k.name.size ≤ maxLen) (hs : ∀ p ∈ k.ps, p.1.size ≤ maxLen ∧ p.2.size ≤ maxLen) :
    Calls Try.prog 190 #[kpV k, .int .i64 left] w fun e w' => ∃ n : Int, e = .returned (.int .i64 n) ∧ n ≤ left ∧ (0 ≤ n → k.ps.length ≤ 1048576) ∧ Below w.heap.size w w' := by
  unfold maxLen at hn
  have hb1 : Below w.heap.size w (w.alloc (.cells #[.string k.name, .int .i64 k.tick, .slice k.A k.ps.length k.c] 191)) := (Below.refl _ _).alloc (Nat.le_refl _) _
  have HX := Lib.hid (hx.next hb1)
  have HS := Lib.hid (And.intro hl hs)
  have HB := Lib.hid hb1
  clear hx hl hs hb1
  by_cases ha : left - k.name.size < 0
  · go_enter Try.func190, Try.ntmps190
    go_wp2
    go_ret
    exact ⟨-1, rfl, by omega, fun h => by omega, HB.out⟩
  · go_enter Try.func190, Try.ntmps190
    go_wp2_with fail
    refine (szPairS_big _ _ _ _ _ HX.out HS.out.1 (by omega) (by omega) HS.out.2).mono ?_
    rintro e w1 ⟨n, rfl, hn1, hn2, hb1⟩
    have hb2 := below_after HB.out hb1
    clear hb1
    by_cases hb : n < 0
    · go_wp2
      go_ret
      exact ⟨-1, rfl, by omega, fun h => by omega, hb2⟩
    · have hn3 := hn2 (by omega)
      clear hn2
      go_wp2
      go_ret
      exact ⟨n, rfl, by omega, fun h => hn3, hb2⟩
def KGood (k : Kp) : Prop := k.name.size ≤ maxLen ∧ k.ps.length ≤ maxLen ∧ ∀ p ∈ k.ps, p.1.size ≤ maxLen ∧ p.2.size ≤ maxLen
set_option maxRecDepth 100000 in
theorem szKeptS_any (A : Option Addr) (c : Nat) (xs : List Kp) (left : Int) (w : World) (hx : KRd w w.heap.size A xs) (hl : xs.length ≤ maxLen) (h0 : 0 ≤ left) (h1 : left ≤ 1048576) (hs : ∀ k ∈ xs, KGood k) :
    Calls Try.prog 115 #[.slice A xs.length c, .int .i64 left] w fun e w' => ∃ n : Int, e = .returned (.int .i64 n) ∧ n ≤ left ∧ (0 ≤ n → xs.length ≤ 1048576 ∧ ∀ k ∈ xs, k.ps.length ≤ 1048576) ∧ Below w.heap.size w w' := by
  unfold maxLen at hl
  have HX := Lib.hid hx
  have HS := Lib.hid hs
  clear hx hs
  by_cases hneg : left < xs.length
  · go_enter Try.func115, Try.ntmps115
    go_wp2
    go_ret
    exact ⟨-1, rfl, by omega, fun h => by omega, Below.refl _ _⟩
  · go_enter Try.func115, Try.ntmps115
    go_wp2
    go_loopw [1, 5] (fun l i wr => ∃ (k : Nat) (m : Int), k ≤ xs.length ∧ i = .int .i64 k ∧ l = .int .i64 m ∧ 0 ≤ m ∧ m ≤ left ∧ (∀ p ∈ xs.take k, p.ps.length ≤ 1048576) ∧ Below w.heap.size w wr) (fun _ i _ => xs.length - (intOf i).toNat)
    case atStart => exact ⟨0, left - xs.length, Nat.zero_le _, rfl, rfl, by omega, by omega, by simp, Below.refl _ _⟩
    case round =>
      obtain ⟨k, m, hk, rfl, rfl, hm, hml, hall, hb⟩ := hrel
      have HA := Lib.hid hall
      clear hall
      by_cases hlt : k < xs.length
      · obtain ⟨ad, rfl, _, hca, hcb, hcc⟩ := (HX.out.1.below hb).kp hlt
        go_wp2_with fail
        refine (szKept_any xs[k] _ _ ((HX.out.2 xs[k] (List.getElem_mem _)).next hb) (HS.out xs[k] (List.getElem_mem _)).2.1 hm (by omega) (HS.out xs[k] (List.getElem_mem _)).1 (HS.out xs[k] (List.getElem_mem _)).2.2).mono ?_
        rintro e w1 ⟨n, rfl, hn1, hn2, hb1⟩
        have hb2 := below_after hb hb1
        clear hb1
        by_cases hn : n < 0
        · clear hn2
          go_wp2
          go_ret
          exact ⟨-1, rfl, by omega, fun h => by omega, hb2⟩
        · have HN3 := Lib.hid (hn2 (by omega))
          clear hn2
          go_wp2
          go_roundw
          case rel =>
            refine ⟨k + 1, n, by omega, by go_num, rfl, by omega, by omega, fun p hp => ?_, hb2⟩
            rw [List.take_succ_eq_append_getElem hlt, List.mem_append] at hp
            rcases hp with hp | hp
            · exact HA.out p hp
            · simp at hp
              subst hp
              exact HN3.out
          case measure => simp [intOf]; omega
      · go_wp2
        go_ret
        exact ⟨m, rfl, by omega, fun _ => ⟨by omega, fun p hp => HA.out p (by rwa [List.take_of_length_le (by omega)])⟩, hb⟩
end Go.Proofs.Ytlfnpnkpjdmonaa
