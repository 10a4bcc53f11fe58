import Derived.Test.YtlfnpnkpjdmonaaKept3
set_option linter.unusedVariables false
set_option linter.unusedSimpArgs false
namespace Go.Proofs.Ytlfnpnkpjdmonaa
open Go.RowKit

def KOwn (w : World) (base : Nat) (B : Option Addr) (c : Nat) (ys : List Kp) : Prop := w.ownsRow base 131 3 (.slice B ys.length c) ys.length (flat encK ys) ∧ ∀ y ∈ ys, w.ownsRow base 82 2 (.slice y.A y.ps.length y.c) y.ps.length (flat encP y.ps)
theorem KOwn.rd {w : World} {base : Nat} {B : Option Addr} {c : Nat} {ys : List Kp} (h : KOwn w base B c ys) : KRd w w.heap.size B ys := ⟨Rd.own h.1, fun y hy => Rd.own (h.2 y hy)⟩
theorem KOwn.set {w : World} {base : Nat} {B : Option Addr} {c : Nat} {ys : List Kp} (h : KOwn w base B c ys) {k : Nat} (hk : k < base) (i : Nat) (u : Value) : KOwn (w.setCell ⟨k, i, none⟩ u) base B c ys := ⟨ownSet h.1 hk i u, fun y hy => ownSet (h.2 y hy) hk i u⟩
theorem KOwn.mono {w : World} {base base' : Nat} {B : Option Addr} {c : Nat} {ys : List Kp} (h : KOwn w base B c ys) (hb : base' ≤ base) : KOwn w base' B c ys := ⟨own_mono h.1 hb, fun y hy => own_mono (h.2 y hy) hb⟩
theorem KOwn.below {w w1 : World} {base : Nat} {B : Option Addr} {c : Nat} {ys : List Kp} (h : KOwn w base B c ys) (hb : Below w.heap.size w w1) : KOwn w1 base B c ys := ⟨own_below h.1 hb, fun y hy => own_below (h.2 y hy) hb⟩
/-- the snapshots, copied: the same data, in memory of the call's own -/
def ToKs (xs : List Kp) (w : World) (e : Ending) (w' : World) : Prop := ∃ (B : Option Addr) (c : Nat) (ys : List Kp), e = .returned (.slice B xs.length c) ∧ ys.map Kp.data = xs.map Kp.data ∧ KOwn w' w.heap.size B c ys ∧ Below w.heap.size w w'
theorem tks_len {xs ys : List Kp} (h : ys.map Kp.data = xs.map Kp.data) : ys.length = xs.length := by simpa using congrArg List.length h
theorem data_take {xs ys : List Kp} {k : Nat} (hlt : k < xs.length) (h : ys.map Kp.data = (xs.take k).map Kp.data) (y : Kp) (hy : y.data = xs[k].data) : (ys ++ [y]).map Kp.data = (xs.take (k + 1)).map Kp.data := by
  rw [List.take_succ_eq_append_getElem hlt, List.map_append, List.map_append, h]
  simp [hy]
set_option maxRecDepth 100000 in
theorem toKeptS_any (A : Option Addr) (c : Nat) (xs : List Kp) (w : World) (hx : KRd w w.heap.size A xs) (hl : xs.length ≤ 1048576) (hs : ∀ k ∈ xs, k.ps.length ≤ 1048576) :
    Calls Try.prog 118 #[.slice A xs.length c] w (ToKs xs w) := by
  obtain ⟨i0, hi, hz0, hz1, hz2⟩ := info_parts infoKept
  have HX := Lib.hid hx
  have HS := Lib.hid hs
  clear hx hs
  have hz2' : i0.bytes * xs.length ≤ 281474976710656 := by rw [hz2]; omega
  have HI := Lib.hid (And.intro hi (And.intro hz0 (And.intro hz1 hz2')))
  clear hi hz0 hz1 hz2 hz2'
  go_enter Try.func118, Try.ntmps118
  go_wp2_with (at_make; refine wpList_make_full _ rfl _ _ _ rfl w.heap.size 131 i0 (.agg #[.string ⟨#[]⟩, .int .i64 0, .slice none 0 0]) 3 Try.underlying60 HI.out.1 HI.out.2.1 HI.out.2.2.1 _ _ _ _ xs.length rfl rfl rfl rfl HI.out.2.2.2 (by simp only [maxLen]; omega) (Nat.le_refl _) ?_; intro w1 hown1 hg1)
  have hZ : (madeCells (Value.agg #[.string ⟨#[]⟩, .int .i64 0, .slice none 0 0]).cells (xs.length * 3)).toList.length = xs.length * 3 := by simp [madeCells]
  generalize hgz : (madeCells (Value.agg #[.string ⟨#[]⟩, .int .i64 0, .slice none 0 0]).cells (xs.length * 3)).toList = Z at *
  have hown2 : w1.ownsRow w.heap.size 131 3 (.slice (some ⟨w.heap.size, 0, none⟩) xs.length xs.length) xs.length (flat encK [] ++ Z) := hown1
  have HO := Lib.hid hown2
  have HZ := Lib.hid hZ
  have hb1 : Below w.heap.size w w1 := below_grown none hg1 (Nat.le_refl _) (by simp)
  have hq1 : w.heap.size < w1.heap.size := (hown2.lt _ rfl).2
  clear hown1 hown2 hg1 hgz hZ
  go_wp2
  go_loopw [4] (fun i wr => ∃ (k : Nat) (Z : List Value) (ys : List Kp), k ≤ xs.length ∧ i = .int .i64 k ∧ Z.length = (xs.length - k) * 3 ∧ ys.map Kp.data = (xs.take k).map Kp.data ∧ wr.ownsRow w.heap.size 131 3 (.slice (some ⟨w.heap.size, 0, none⟩) xs.length xs.length) xs.length (flat encK ys ++ Z) ∧ (∀ y ∈ ys, wr.ownsRow (w.heap.size + 1) 82 2 (.slice y.A y.ps.length y.c) y.ps.length (flat encP y.ps)) ∧ w.heap.size < wr.heap.size ∧ Below w.heap.size w wr) (fun i _ => xs.length - (intOf i).toNat)
  case atStart => exact ⟨0, Z, [], Nat.zero_le _, rfl, HZ.out, rfl, HO.out, by simp, hq1, hb1⟩
  case round =>
    obtain ⟨k, Z, ys, hk, rfl, hZ, hd, ho, hn, hq, hb⟩ := hrel
    have HK := Lib.hid (And.intro ho (And.intro hd hn))
    have HZ2 := Lib.hid hZ
    clear ho HO HZ hZ hd hn
    by_cases hlt : k < xs.length
    · obtain ⟨ad, rfl, hbl, hca, hcb, hcc⟩ := (HX.out.1.below hb).kp hlt
      go_wp2_with fail
      refine (toKept_any xs[k] _ ((HX.out.2 xs[k] (List.getElem_mem _)).next hb) (HS.out xs[k] (List.getElem_mem _))).mono ?_
      rintro e w2 ⟨A2, c2, rfl, hp2, hb2⟩
      have ho2 := own_below HK.out.1 hb2
      have hb3 := below_after hb hb2
      have hq2 : w.heap.size < w2.heap.size := by have := hb2.size; omega
      have hyl : ys.length = k := by have h := tks_len (HK.out.2.1); rw [List.length_take] at h; omega
      have hfl : (flat encK ys ++ Z).length = xs.length * 3 := ho2.1
      have hce0 : ∃ u, w2.cell? ⟨w.heap.size, k * 3, none⟩ = some u := by
        rw [ho2.cellAt (k * 3) (by omega)]
        exact ⟨_, List.getElem?_eq_getElem (by omega)⟩
      have hce1 : ∃ u, w2.cell? ⟨w.heap.size, k * 3 + 1, none⟩ = some u := by
        rw [ho2.cellAt (k * 3 + 1) (by omega)]
        exact ⟨_, List.getElem?_eq_getElem (by omega)⟩
      have hce2 : ∃ u, w2.cell? ⟨w.heap.size, k * 3 + 1 + 1, none⟩ = some u := by
        rw [ho2.cellAt (k * 3 + 1 + 1) (by omega)]
        exact ⟨_, List.getElem?_eq_getElem (by omega)⟩
      obtain ⟨u0, hcu0⟩ := hce0
      obtain ⟨u1, hcu1⟩ := hce1
      obtain ⟨u2, hcu2⟩ := hce2
      have hfr0 := ho2.frozenAt (k * 3)
      have hfr1 := ho2.frozenAt (k * 3 + 1)
      have hfr2 := ho2.frozenAt (k * 3 + 1 + 1)
      have HO2 := Lib.hid ho2
      have HP2 := Lib.hid hp2
      have HF := Lib.hid hfl
      have HN2 : Hid (∀ y ∈ ys, w2.ownsRow (w.heap.size + 1) 82 2 (.slice y.A y.ps.length y.c) y.ps.length (flat encP y.ps)) := fun y hy => own_below (HK.out.2.2 y hy) hb2
      have HD := Lib.hid (And.intro hyl HK.out.2.1)
      clear ho2 hfl hca hcb hcc hb2 HK hp2 hyl
      go_wp2
      go_roundw
      case rel =>
        have hfit := HF.out
        have hZl := HZ2.out
        have hyl := HD.out.1
        refine ⟨k + 1, Z.drop 3, ys ++ [⟨xs[k].name, xs[k].tick, A2, c2, xs[k].ps⟩], by omega, by go_num, by simp; omega, data_take hlt HD.out.2 _ rfl, ?_, ?_, by simp; omega, below_setCells (Nat.le_refl _) [.string xs[k].name, .int .i64 xs[k].tick, .slice A2 xs[k].ps.length c2] (k * 3) _ hb3⟩
        · have h := (own_setCells (w := w2) [.string xs[k].name, .int .i64 xs[k].tick, .slice A2 xs[k].ps.length c2] (k * 3) _ _ HO2.out (by simp only [List.length_cons, List.length_nil]; omega)).1
          have e := put_elem encK_len ys ⟨xs[k].name, xs[k].tick, A2, c2, xs[k].ps⟩ Z (by omega)
          rw [hyl] at e
          rw [← e]
          exact h
        · intro y hy
          refine ownSet (ownSet (ownSet ?_ (by omega) _ _) (by omega) _ _) (by omega) _ _
          rw [List.mem_append] at hy
          rcases hy with hy | hy
          · exact HN2.out y hy
          · simp at hy
            subst hy
            exact own_mono HP2.out (by omega)
      case measure => simp [intOf]; omega
    · go_wp2
      go_ret
      have h := HK.out.1
      have hZl := HZ2.out
      obtain rfl : Z = [] := List.eq_nil_of_length_eq_zero (by rw [hZl]; omega)
      have hd := HK.out.2.1
      rw [List.take_of_length_le (by omega)] at hd
      rw [List.append_nil] at h
      exact ⟨_, _, ys, rfl, hd, ⟨by rw [tks_len hd]; exact h, fun y hy => own_mono (HK.out.2.2 y hy) (by omega)⟩, hb⟩
end Go.Proofs.Ytlfnpnkpjdmonaa
