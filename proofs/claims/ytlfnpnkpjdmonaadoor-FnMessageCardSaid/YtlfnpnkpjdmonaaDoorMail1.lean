import Derived.Test.YtlfnpnkpjdmonaaDoorMsg10
set_option linter.unusedVariables false
set_option linter.unusedSimpArgs false
namespace Go.Proofs.YtlfnpnkpjdmonaaDoor
open Go.RowKit

/-! ### mails -/
structure Ml where
  uid : Int
  flags : Int
  text : ByteArray
def encM (m : Ml) : List Value := [.int .i64 m.uid, .int .i64 m.flags, .string m.text]
@[reducible] def mlV (m : Ml) : Value := .agg #[.int .i64 m.uid, .int .i64 m.flags, .string m.text]
theorem encM_len (m : Ml) : (encM m).length = 3 := rfl
theorem ml_at {l : List Ml} {i : Nat} (h : i < l.length) : (flat encM l)[i * 3]? = some (.int .i64 l[i].uid) ∧ (flat encM l)[i * 3 + 1]? = some (.int .i64 l[i].flags) ∧ (flat encM l)[i * 3 + 2]? = some (.string l[i].text) :=
  ⟨by simpa using flat_get (j := 0) encM_len (List.getElem?_eq_getElem h) rfl, flat_get (j := 1) encM_len (List.getElem?_eq_getElem h) rfl, flat_get (j := 2) encM_len (List.getElem?_eq_getElem h) rfl⟩
theorem add_more (a : Addr) (i j : Nat) (hj : 0 < j) : a.add (i + j) = ⟨(a.add i).block, (a.add i).off + j, none⟩ := by
  unfold Addr.add
  by_cases hi : i = 0 <;> by_cases h : i + j = 0 <;> simp [hi] <;> omega
theorem Rd.ml {w : World} {B : Nat} {A : Option Addr} {l : List Ml} (h : Rd w B A (flat encM l)) {i : Nat} (hi : i < l.length) : ∃ ad, A = some ad ∧ ad.block < B ∧ w.cell? (ad.add (i * 3)) = some (.int .i64 l[i].uid) ∧ w.cell? ⟨(ad.add (i * 3)).block, (ad.add (i * 3)).off + 1, none⟩ = some (.int .i64 l[i].flags) ∧ w.cell? ⟨(ad.add (i * 3)).block, (ad.add (i * 3)).off + 1 + 1, none⟩ = some (.string l[i].text) := by
  obtain ⟨ad, e, hb, hc⟩ := h (by
    intro h0
    have := flat_length encM_len l
    rw [h0] at this
    simp at this
    omega)
  exact ⟨ad, e, hb, hc _ _ (ml_at hi).1, add_more ad (i * 3) 1 (by omega) ▸ hc _ _ (ml_at hi).2.1, add_more ad (i * 3) 2 (by omega) ▸ hc _ _ (ml_at hi).2.2⟩
theorem szMail_any (m : Ml) (left : Int) (w : World) (h0 : 0 ≤ left) (h1 : left ≤ 1048576) (hs : m.text.size ≤ maxLen) :
    Calls Tryd.prog 43 #[mlV m, .int .i64 left] w fun e w' => ∃ n : Int, e = .returned (.int .i64 n) ∧ n ≤ left ∧ (0 ≤ n → m.text.size ≤ 1048576) ∧ Below w.heap.size w w' := by
  unfold maxLen at hs
  by_cases ha : left - m.text.size < 0
  · go_enter Tryd.func43, Tryd.ntmps43
    go_wp2
    go_ret
    exact ⟨-1, rfl, by omega, fun h => by omega, by repeat (first | exact Below.refl _ _ | assumption | refine Below.drew ?_ | refine below_drewN ?_ _ | refine Below.setCell ?_ (by first | exact Nat.le_refl _ | exact Below.size (by assumption) | (simp; done) | (simp; omega) | omega) _ | refine Below.alloc ?_ (by first | exact Nat.le_refl _ | exact Below.size (by assumption) | (simp; done) | (simp; omega) | omega) _)⟩
  · go_enter Tryd.func43, Tryd.ntmps43
    go_wp2
    go_ret
    exact ⟨left - m.text.size, rfl, by omega, fun h => by omega, by repeat (first | exact Below.refl _ _ | assumption | refine Below.drew ?_ | refine below_drewN ?_ _ | refine Below.setCell ?_ (by first | exact Nat.le_refl _ | exact Below.size (by assumption) | (simp; done) | (simp; omega) | omega) _ | refine Below.alloc ?_ (by first | exact Nat.le_refl _ | exact Below.size (by assumption) | (simp; done) | (simp; omega) | omega) _)⟩
theorem szMailS_any (A : Option Addr) (c : Nat) (xs : List Ml) (left : Int) (w : World) (hx : Rd w w.heap.size A (flat encM xs)) (hl : xs.length ≤ maxLen) (h0 : 0 ≤ left) (h1 : left ≤ 1048576) (hs : ∀ d ∈ xs, d.text.size ≤ maxLen) :
    Calls Tryd.prog 18 #[.slice A xs.length c, .int .i64 left] w fun e w' => ∃ n : Int, e = .returned (.int .i64 n) ∧ n ≤ left ∧ (0 ≤ n → xs.length ≤ 1048576 ∧ ∀ d ∈ xs, d.text.size ≤ 1048576) ∧ Below w.heap.size w w' := by
  unfold maxLen at hl
  have HX := Lib.hid hx
  have HS := Lib.hid hs
  clear hx hs
  by_cases hneg : left < xs.length
  · go_enter Tryd.func18, Tryd.ntmps18
    go_wp2
    go_ret
    exact ⟨-1, rfl, by omega, fun h => by omega, Below.refl _ _⟩
  · go_enter Tryd.func18, Tryd.ntmps18
    go_wp2
    go_loopw [1, 5] (fun l i wr => ∃ (k : Nat) (m : Int), k ≤ xs.length ∧ i = .int .i64 k ∧ l = .int .i64 m ∧ 0 ≤ m ∧ m ≤ left ∧ (∀ p ∈ xs.take k, p.text.size ≤ 1048576) ∧ Below w.heap.size w wr) (fun _ i _ => xs.length - (intOf i).toNat)
    case atStart => exact ⟨0, left - xs.length, Nat.zero_le _, rfl, rfl, by omega, by omega, by simp, Below.refl _ _⟩
    case round =>
      obtain ⟨k, m, hk, rfl, rfl, hm, hml, hall, hb⟩ := hrel
      have HA := Lib.hid hall
      clear hall
      by_cases hlt : k < xs.length
      · obtain ⟨ad, rfl, _, c0, c1, c2⟩ := (HX.out.below hb).ml hlt
        have HD := Lib.hid (HS.out xs[k] (List.getElem_mem _))
        have HTK : Hid (xs.take (k + 1) = xs.take k ++ [xs[k]]) := List.take_succ_eq_append_getElem hlt
        generalize hgx : xs[k] = x at *
        clear hgx
        go_wp2_with fail
        refine (szMail_any x _ _ hm (by omega) HD.out).mono ?_
        rintro e w1 ⟨n, rfl, hn1, hn2, hb1⟩
        have HN := Lib.hid hn2
        clear hn2
        have hb2 := below_after hb hb1
        clear hb1
        by_cases hn : n < 0
        · go_wp2
          go_ret
          exact ⟨-1, rfl, by omega, fun h => by omega, hb2⟩
        · go_wp2
          go_roundw
          case rel =>
            refine ⟨k + 1, n, by omega, by go_num, rfl, by omega, by omega, fun p hp => ?_, hb2⟩
            rw [HTK.out, List.mem_append] at hp
            rcases hp with hp | hp
            · exact HA.out p hp
            · rw [List.mem_singleton.1 hp]; exact HN.out (by omega)
          case measure => simp [intOf]; omega
      · go_wp2
        go_ret
        exact ⟨m, rfl, by omega, fun _ => ⟨by omega, fun p hp => HA.out p (by rwa [List.take_of_length_le (by omega)])⟩, hb⟩
theorem toMail_any (p : Ml) (w : World) : Calls Tryd.prog 45 #[mlV p] w fun e w' => e = .returned (mlV p) ∧ Below w.heap.size w w' := by
  go_enter Tryd.func45, Tryd.ntmps45
  go_wp2
  refine bodyPost_ret (v := mlV p) (by simp [results, Tryd.results45, go_sem]) rfl ⟨rfl, ?_⟩
  repeat (first | exact Below.refl _ _ | assumption | refine Below.drew ?_ | refine below_drewN ?_ _ | refine Below.setCell ?_ (by first | exact Nat.le_refl _ | exact Below.size (by assumption) | (simp; done) | (simp; omega) | omega) _ | refine Below.alloc ?_ (by first | exact Nat.le_refl _ | exact Below.size (by assumption) | (simp; done) | (simp; omega) | omega) _)
theorem infoMail : (Tryd.prog.info? 51).map (fun i => (i.zero, i.size, i.bytes)) = some (some (.agg #[.int .i64 0, .int .i64 0, .string ⟨#[]⟩]), 3, 32) := by kernel_rfl
set_option maxRecDepth 100000 in
set_option maxHeartbeats 1000000 in
theorem toMailS_any (A : Option Addr) (c : Nat) (xs : List Ml) (w : World) (hx : Rd w w.heap.size A (flat encM xs)) (hl : xs.length ≤ 1048576) :
    Calls Tryd.prog 20 #[.slice A xs.length c] w fun e w' => ∃ v, e = .returned v ∧ w'.ownsRow w.heap.size 51 3 v xs.length (flat encM xs) ∧ Below w.heap.size w w' := by
  obtain ⟨i0, hi, hz0, hz1, hz2⟩ := info_parts infoMail
  have HX := Lib.hid hx
  clear hx
  have hz2' : i0.bytes * xs.length ≤ 281474976710656 := by rw [hz2]; omega
  have HI := Lib.hid (And.intro hi (And.intro hz0 (And.intro hz1 hz2')))
  clear hi hz0 hz1 hz2 hz2'
  go_enter Tryd.func20, Tryd.ntmps20
  go_wp2_with (at_make; refine wpList_make_full _ rfl _ _ _ rfl w.heap.size 51 i0 (.agg #[.int .i64 0, .int .i64 0, .string ⟨#[]⟩]) 3 Tryd.underlying38 HI.out.1 HI.out.2.1 HI.out.2.2.1 _ _ _ _ xs.length rfl rfl rfl rfl HI.out.2.2.2 (by simp only [maxLen]; omega) (Nat.le_refl _) ?_; intro w1 hown1 hg1)
  have hZ : (madeCells (Value.cells (.agg #[.int .i64 0, .int .i64 0, .string ⟨#[]⟩])) (xs.length * 3)).toList.length = xs.length * 3 := by simp [madeCells]
  generalize hgz : (madeCells (Value.cells (.agg #[.int .i64 0, .int .i64 0, .string ⟨#[]⟩])) (xs.length * 3)).toList = Z at *
  have hown2 : w1.ownsRow w.heap.size 51 3 (.slice (some ⟨w.heap.size, 0, none⟩) xs.length xs.length) xs.length (flat encM (xs.take 0) ++ Z) := hown1
  have HO := Lib.hid hown2
  have HZ := Lib.hid hZ
  have hb1 : Below w.heap.size w w1 := below_grown none hg1 (Nat.le_refl _) (by simp)
  have hq1 : w.heap.size < w1.heap.size := (hown2.lt _ rfl).2
  clear hown1 hown2 hg1 hgz hZ
  go_wp2
  go_loopw [4] (fun i wr => ∃ (k : Nat) (Z : List Value), k ≤ xs.length ∧ i = .int .i64 k ∧ Z.length = (xs.length - k) * 3 ∧ wr.ownsRow w.heap.size 51 3 (.slice (some ⟨w.heap.size, 0, none⟩) xs.length xs.length) xs.length (flat encM (xs.take k) ++ Z) ∧ Below w.heap.size w wr) (fun i _ => xs.length - (intOf i).toNat)
  case atStart => exact ⟨0, Z, Nat.zero_le _, rfl, HZ.out, HO.out, hb1⟩
  case round =>
    obtain ⟨k, Z, hk, rfl, hZ, ho, hb⟩ := hrel
    have HK := Lib.hid ho
    have HZ2 := Lib.hid hZ
    clear ho HO HZ hZ
    by_cases hlt : k < xs.length
    · obtain ⟨ad, rfl, hbl, c0, c1, c2⟩ := (HX.out.below hb).ml hlt
      go_wp2_with fail
      refine (toMail_any xs[k] _).mono ?_
      rintro e w2 ⟨rfl, hb2⟩
      have ho2 := own_below HK.out hb2
      have hb3 := below_after hb hb2
      have hfl : (flat encM (List.take k xs) ++ Z).length = xs.length * 3 := ho2.1
      have hce0 : ∃ u, w2.cell? ⟨w.heap.size, k * 3, none⟩ = some u := by
        rw [ho2.cellAt (k * 3) (by omega)]
        exact ⟨_, List.getElem?_eq_getElem (by omega)⟩
      obtain ⟨u0, hcu0⟩ := hce0
      have hfr0 := ho2.frozenAt (k * 3)
      have hce1 : ∃ u, w2.cell? ⟨w.heap.size, k * 3 + 1, none⟩ = some u := by
        rw [ho2.cellAt (k * 3 + 1) (by omega)]
        exact ⟨_, List.getElem?_eq_getElem (by omega)⟩
      obtain ⟨u1, hcu1⟩ := hce1
      have hfr1 := ho2.frozenAt (k * 3 + 1)
      have hce2 : ∃ u, w2.cell? ⟨w.heap.size, k * 3 + 1 + 1, none⟩ = some u := by
        rw [ho2.cellAt (k * 3 + 1 + 1) (by omega)]
        exact ⟨_, List.getElem?_eq_getElem (by omega)⟩
      obtain ⟨u2, hcu2⟩ := hce2
      have hfr2 := ho2.frozenAt (k * 3 + 1 + 1)
      have HO2 := Lib.hid ho2
      have HF := Lib.hid hfl
      clear ho2 hfl c0 c1 c2 hb2 HK
      go_wp2
      go_roundw
      case rel =>
        have hfit := HF.out
        have hZl := HZ2.out
        refine ⟨k + 1, Z.drop 3, by omega, by go_num, by simp; omega, ?_, below_setCells (Nat.le_refl _) (encM xs[k]) (k * 3) _ hb3⟩
        have h := (own_setCells (w := w2) (encM xs[k]) (k * 3) _ _ HO2.out (by rw [encM_len]; omega)).1
        have e := put_elem encM_len (xs.take k) xs[k] Z (by omega)
        rw [List.length_take, show min k xs.length = k from by omega, ← List.take_succ_eq_append_getElem hlt] at e
        rw [← e]
        exact h
      case measure => simp [intOf]; omega
    · go_wp2
      go_ret
      refine ⟨_, rfl, ?_, hb⟩
      have h := HK.out
      have hZl := HZ2.out
      obtain rfl : Z = [] := List.eq_nil_of_length_eq_zero (by rw [hZl]; omega)
      rw [List.append_nil, List.take_of_length_le (by omega)] at h
      exact h
set_option maxRecDepth 100000 in
theorem eqMail_self (d : Ml) (w : World) : Calls Tryd.prog 49 #[mlV d, mlV d] w fun e w' => e = .returned (.bool true) ∧ Below w.heap.size w w' := by
  obtain ⟨u, f, t⟩ := d
  go_enter Tryd.func49, Tryd.ntmps49
  go_wp2
  go_ret
  exact ⟨rfl, by repeat (first | exact Below.refl _ _ | assumption | refine Below.drew ?_ | refine below_drewN ?_ _ | refine Below.setCell ?_ (by first | exact Nat.le_refl _ | exact Below.size (by assumption) | (simp; done) | (simp; omega) | omega) _ | refine Below.alloc ?_ (by first | exact Nat.le_refl _ | exact Below.size (by assumption) | (simp; done) | (simp; omega) | omega) _)⟩
set_option maxRecDepth 100000 in
set_option maxHeartbeats 4000000 in
theorem eqMailS_eq (A B : Option Addr) (c d : Nat) (xs : List Ml) (w : World) (hx : Rd w w.heap.size A (flat encM xs)) (hy : Rd w w.heap.size B (flat encM xs)) (hl : xs.length ≤ 1048576) :
    Calls Tryd.prog 23 #[.slice A xs.length c, .slice B xs.length d] w fun e w' => e = .returned (.bool true) ∧ Below w.heap.size w w' := by
  have HX := Lib.hid hx
  have HY := Lib.hid hy
  clear hx hy
  go_enter Tryd.func23, Tryd.ntmps23
  go_wp2
  go_loopw [5] (fun i wr => ∃ k : Nat, k ≤ xs.length ∧ i = .int .i64 k ∧ Below w.heap.size w wr) (fun i _ => xs.length - (intOf i).toNat)
  case atStart => exact ⟨0, Nat.zero_le _, rfl, Below.refl _ _⟩
  case round =>
    obtain ⟨k, hk, rfl, hb⟩ := hrel
    by_cases hlt : k < xs.length
    · obtain ⟨ad, rfl, hbl, h0, h1, h2⟩ := (HX.out.below hb).ml hlt
      obtain ⟨bd, rfl, hbl', g0, g1, g2⟩ := (HY.out.below hb).ml hlt
      have hcl := hb.size
      generalize hgx : xs[k] = x at *
      clear hgx
      go_wp2
      go_region_held3 (fun w' => w'.cell? (ad.add (k * 3)) = some (.int .i64 x.uid) ∧ w'.cell? ⟨(ad.add (k * 3)).block, (ad.add (k * 3)).off + 1, none⟩ = some (.int .i64 x.flags) ∧ w'.cell? ⟨(ad.add (k * 3)).block, (ad.add (k * 3)).off + 1 + 1, none⟩ = some (.string x.text) ∧ w'.cell? (bd.add (k * 3)) = some (.int .i64 x.uid) ∧ w'.cell? ⟨(bd.add (k * 3)).block, (bd.add (k * 3)).off + 1, none⟩ = some (.int .i64 x.flags) ∧ w'.cell? ⟨(bd.add (k * 3)).block, (bd.add (k * 3)).off + 1 + 1, none⟩ = some (.string x.text))
        (refine ⟨?_, ?_, ?_, ?_, ?_, ?_⟩ <;> first | assumption | (exact (hb2.cell (by simp only [add_block, World.size_drew]; omega)).trans (by assumption)))
        (first | (go_at_call 49; refine (eqMail_self x _).mono ?_; rintro e w2 ⟨rfl, hb2⟩))
      all_goals
        have hb3 := below_after hb.drew hb2
        clear hb2
        go_wp2_with fail
        go_roundw
        case rel => exact ⟨k + 1, by omega, by go_num, hb3⟩
        case measure => simp [intOf]; omega
    · go_wp2
      go_ret
      exact ⟨rfl, hb⟩
set_option maxRecDepth 100000 in
set_option maxHeartbeats 4000000 in
theorem markMailS_any (base : Nat) (v : Value) (n : Nat) (xs : List Value) (k : Int) (w : World) (hv : w.ownsRow base 51 3 v n xs) (hl : n ≤ 1048576) (h0 : 0 ≤ k) (h1 : k ≤ 1048576) :
    Calls Tryd.prog 24 #[v, .int .i64 k] w fun e w' => e = .returned (.int .i64 (k + 3 * n)) ∧ w.grownBy w' v.ownBlock := by
  rcases hv.2 with ⟨rfl, rfl⟩ | ⟨g, cap, cur, rfl, hbase, hg, hc⟩
  · go_enter Tryd.func24, Tryd.ntmps24
    go_wp2
    go_loopw [1, 5] (fun l i wr => i = .int .i64 0 ∧ l = .int .i64 k ∧ wr = w) (fun _ i _ => 0)
    case atStart => exact ⟨rfl, rfl, rfl⟩
    case round =>
      obtain ⟨rfl, rfl, rfl⟩ := hrel
      go_wp2
      go_ret
      exact ⟨ret_i (by omega), World.grownBy.refl _ _⟩
  · have HV := Lib.hid hv
    clear hv hc hg
    go_enter Tryd.func24, Tryd.ntmps24
    go_wp2
    go_loopw [1, 5] (fun l i wr => ∃ (j : Nat) (cs : List Value), j ≤ n ∧ i = .int .i64 j ∧ l = .int .i64 (k + 3 * j) ∧ wr.ownsRow base 51 3 (.slice (some ⟨g, 0, none⟩) n cap) n cs ∧ w.grownBy wr (some g)) (fun _ i _ => n - (intOf i).toNat)
    case atStart => exact ⟨0, xs, Nat.zero_le _, rfl, by simp, HV.out, World.grownBy.refl _ _⟩
    case round =>
      obtain ⟨j, cs, hj, rfl, rfl, ho, hgr⟩ := hrel
      by_cases hlt : j < n
      · have hle : cs.length = n * 3 := ho.1
        have hln : j * 3 + 3 ≤ n * 3 := by omega
        have hcu : ∃ u, wr.cell? ⟨g, j * 3, none⟩ = some u := by
          rw [ho.cellAt (j * 3) (by omega)]
          exact ⟨_, List.getElem?_eq_getElem (by omega)⟩
        obtain ⟨u0, c0⟩ := hcu
        have f0 : wr.frozen? ⟨g, j * 3, none⟩ = false := ho.frozenAt (j * 3)
        have hcu : ∃ u, wr.cell? ⟨g, j * 3 + 1, none⟩ = some u := by
          rw [ho.cellAt (j * 3 + 1) (by omega)]
          exact ⟨_, List.getElem?_eq_getElem (by omega)⟩
        obtain ⟨u1, c1⟩ := hcu
        have f1 : wr.frozen? ⟨g, j * 3 + 1, none⟩ = false := ho.frozenAt (j * 3 + 1)
        have h1 := ho.stored (j * 3) (.int .i64 (k + 3 * j))
        have h2 := h1.1.stored (j * 3 + 1) (.int .i64 (k + 3 * j + 1))
        have HO := Lib.hid h2.1
        have HG := Lib.hid (grown_after (grown_after hgr h1.2) h2.2)
        clear ho hgr h1 h2
        go_wp2_with fail
        refine (markText_any _ _ (by omega)).mono ?_
        rintro e w1 ⟨rfl, hb1⟩
        have ho1 := own_below HO.out hb1
        have hle2 : _ = n * 3 := ho1.1
        have HG1 := Lib.hid (grown_after (grown_after HG.out (grown_below hb1 _)) (grown_set w1 g (j * 3 + 1 + 1) (.string (mkT (k + 3 * j + 1 + 1)))))
        have HO1 := Lib.hid (ho1.stored (j * 3 + 1 + 1) (.string (mkT (k + 3 * j + 1 + 1)))).1
        have f2 : w1.frozen? ⟨g, j * 3 + 1 + 1, none⟩ = false := ho1.frozenAt (j * 3 + 1 + 1)
        have hcu : ∃ u, w1.cell? ⟨g, j * 3 + 1 + 1, none⟩ = some u := by
          rw [ho1.cellAt (j * 3 + 1 + 1) (by omega)]
          exact ⟨_, List.getElem?_eq_getElem (by omega)⟩
        obtain ⟨u2, c2⟩ := hcu
        clear ho1 hb1 hle2 hle HO HG
        go_wp2_with fail
        go_roundw
        case rel => exact ⟨j + 1, _, by omega, by go_num, by go_num, HO1.out, HG1.out⟩
        case measure => simp [intOf]; omega
      · have hjn : j = n := by omega
        subst hjn
        go_wp2
        go_ret
        exact ⟨ret_i (by omega), hgr⟩

/-! ### rows of ints -/
@[reducible] def iv (n : Int) : Value := .int .i64 n
set_option maxRecDepth 100000 in
theorem eqIntS_eq (A B : Option Addr) (c d : Nat) (xs : List Int) (w : World) (hx : Rd w w.heap.size A (xs.map iv)) (hy : Rd w w.heap.size B (xs.map iv)) (hl : xs.length ≤ 1048576) :
    Calls Tryd.prog 22 #[.slice A xs.length c, .slice B xs.length d] w fun e w' => e = .returned (.bool true) ∧ Below w.heap.size w w' := by
  have HX := Lib.hid hx
  have HY := Lib.hid hy
  clear hx hy
  go_enter Tryd.func22, Tryd.ntmps22
  go_wp2
  go_loopw [5] (fun i wr => ∃ k : Nat, k ≤ xs.length ∧ i = .int .i64 k ∧ Below w.heap.size w wr) (fun i _ => xs.length - (intOf i).toNat)
  case atStart => exact ⟨0, Nat.zero_le _, rfl, Below.refl _ _⟩
  case round =>
    obtain ⟨k, hk, rfl, hb⟩ := hrel
    by_cases hlt : k < xs.length
    · obtain ⟨ad, rfl, hbl, h0⟩ := (HX.out.below hb).at_ (map_at (f := iv) hlt)
      obtain ⟨bd, rfl, hbl', g0⟩ := (HY.out.below hb).at_ (map_at (f := iv) hlt)
      generalize hgx : xs[k] = x at *
      clear hgx
      go_wp2
      go_region
      all_goals
        go_wp2_with fail
        go_roundw
        case rel => exact ⟨k + 1, by omega, by go_num, by first | exact hb.drew | exact hb⟩
        case measure => simp [intOf]; omega
    · go_wp2
      go_ret
      exact ⟨rfl, hb⟩
def Marked1 (k : Int) (j : Nat) (cs : List Value) : Prop := ∀ i, i < j → cs[i]? = some (.int .i64 (k + i))
set_option maxRecDepth 100000 in
theorem markIntS_any (base : Nat) (v : Value) (n : Nat) (xs : List Value) (k : Int) (w : World) (hv : w.ownsRow base 3 1 v n xs) (hl : n ≤ 1048576) (h0 : 0 ≤ k) (h1 : k ≤ 1048576) :
    Calls Tryd.prog 25 #[v, .int .i64 k] w fun e w' => e = .returned (.int .i64 (k + n)) ∧ (∃ cs, w'.ownsRow base 3 1 v n cs ∧ Marked1 k n cs) ∧ w.grownBy w' v.ownBlock := by
  rcases hv.2 with ⟨rfl, rfl⟩ | ⟨g, cap, cur, rfl, hbase, hg, hc⟩
  · go_enter Tryd.func25, Tryd.ntmps25
    go_wp2
    go_loopw [1, 5] (fun l i wr => i = .int .i64 0 ∧ l = .int .i64 k ∧ wr = w) (fun _ i _ => 0)
    case atStart => exact ⟨rfl, rfl, rfl⟩
    case round =>
      obtain ⟨rfl, rfl, rfl⟩ := hrel
      go_wp2
      go_ret
      exact ⟨ret_i (by omega), ⟨xs, hv, fun i hi => by omega⟩, World.grownBy.refl _ _⟩
  · have HV := Lib.hid hv
    clear hv hc hg
    go_enter Tryd.func25, Tryd.ntmps25
    go_wp2
    go_loopw [1, 5] (fun l i wr => ∃ (j : Nat) (cs : List Value), j ≤ n ∧ i = .int .i64 j ∧ l = .int .i64 (k + j) ∧ wr.ownsRow base 3 1 (.slice (some ⟨g, 0, none⟩) n cap) n cs ∧ Marked1 k j cs ∧ w.grownBy wr (some g)) (fun _ i _ => n - (intOf i).toNat)
    case atStart => exact ⟨0, xs, Nat.zero_le _, rfl, by simp, HV.out, fun i hi => by omega, World.grownBy.refl _ _⟩
    case round =>
      obtain ⟨j, cs, hj, rfl, rfl, ho, hmk, hgr⟩ := hrel
      by_cases hlt : j < n
      · have hle : cs.length = n * 1 := ho.1
        have hcu : ∃ u, wr.cell? ⟨g, j, none⟩ = some u := by
          rw [ho.cellAt j (by omega)]
          exact ⟨_, List.getElem?_eq_getElem (by omega)⟩
        obtain ⟨u0, c0⟩ := hcu
        have f0 : wr.frozen? ⟨g, j, none⟩ = false := ho.frozenAt j
        have h1 := ho.stored j (.int .i64 (k + j))
        have HO := Lib.hid h1.1
        have HG := Lib.hid (grown_after hgr h1.2)
        have HM : Hid (Marked1 k (j + 1) (cs.set j (.int .i64 (k + j)))) := fun i hi => by
          by_cases e : i = j
          · subst e; rw [List.getElem?_set_self (by omega)]
          · rw [List.getElem?_set_ne (by omega)]; exact hmk i (by omega)
        clear ho hgr h1 hmk hle
        go_wp2_with fail
        go_roundw
        case rel => exact ⟨j + 1, _, by omega, by go_num, by go_num, HO.out, HM.out, HG.out⟩
        case measure => simp [intOf]; omega
      · have HO := Lib.hid ho
        clear ho
        have hjn : j = n := by omega
        subst hjn
        go_wp2
        go_ret
        exact ⟨ret_i (by omega), ⟨cs, HO.out, hmk⟩, hgr⟩
set_option maxRecDepth 100000 in
theorem heldIntS_any (base : Nat) (v : Value) (n : Nat) (xs : List Value) (k : Int) (w : World) (hv : w.ownsRow base 3 1 v n xs) (hm : Marked1 k n xs) (hl : n ≤ 1048576) (h0 : 0 ≤ k) (h1 : k ≤ 1048576) :
    Calls Tryd.prog 26 #[v, .int .i64 k] w fun e w' => e = .returned (.int .i64 (k + n)) ∧ Below w.heap.size w w' := by
  rcases hv.2 with ⟨rfl, rfl⟩ | ⟨g, cap, cur, rfl, hbase, hg, hc⟩
  · go_enter Tryd.func26, Tryd.ntmps26
    go_wp2
    go_loopw [1, 5] (fun l i wr => i = .int .i64 0 ∧ l = .int .i64 k ∧ wr = w) (fun _ i _ => 0)
    case atStart => exact ⟨rfl, rfl, rfl⟩
    case round =>
      obtain ⟨rfl, rfl, rfl⟩ := hrel
      go_wp2
      go_ret
      exact ⟨ret_i (by omega), Below.refl _ _⟩
  · have HV := Lib.hid hv
    have HM := Lib.hid hm
    clear hv hc hg hm
    go_enter Tryd.func26, Tryd.ntmps26
    go_wp2
    go_loopw [1, 5] (fun l i wr => ∃ j : Nat, j ≤ n ∧ i = .int .i64 j ∧ l = .int .i64 (k + j) ∧ Below w.heap.size w wr) (fun _ i _ => n - (intOf i).toNat)
    case atStart => exact ⟨0, Nat.zero_le _, rfl, by simp, Below.refl _ _⟩
    case round =>
      obtain ⟨j, hj, rfl, rfl, hb⟩ := hrel
      by_cases hlt : j < n
      · have ho := own_below HV.out hb
        have hln : xs.length = n * 1 := ho.1
        have c0 : wr.cell? ⟨g, j, none⟩ = some (.int .i64 (k + j)) := (ho.cellAt j (by omega)).trans (HM.out j hlt)
        clear ho hln
        go_wp2_with fail
        go_roundw
        case rel => exact ⟨j + 1, by omega, by go_num, by go_num, hb⟩
        case measure => simp [intOf]; omega
      · have hjn : j = n := by omega
        subst hjn
        go_wp2
        go_ret
        exact ⟨ret_i (by omega), hb⟩
end Go.Proofs.YtlfnpnkpjdmonaaDoor
