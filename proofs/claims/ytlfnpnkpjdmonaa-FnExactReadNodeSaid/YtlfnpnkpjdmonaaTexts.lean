import Derived.Test.YtlfnpnkpjdmonaaMark
import Derived.Deep.QuietTactic
import Derived.BigQuiet
import Derived.Deep.RegionHeld3
import Derived.Laws.MakeOwn
set_option linter.unusedVariables false
set_option linter.unusedSimpArgs false
namespace Go.Proofs.Ytlfnpnkpjdmonaa
open Go.RowKit

theorem map_at {α : Type} {f : α → Value} {xs : List α} {i : Nat} (h : i < xs.length) : (xs.map f)[i]? = some (f xs[i]) := by simp [h]

theorem bytes_of_eq {a b : ByteArray} (h : (a.toList == b.toList) = true) : a = b := by
  rw [ByteArray.toList_eq, ByteArray.toList_eq] at h
  exact Go.WideShapes.bytes_inj (by simpa using h)
theorem take_eq_succ {α : Type} {xs ys : List α} {k : Nat} (h1 : k < xs.length) (h2 : k < ys.length) (h : xs.take k = ys.take k) (he : xs[k] = ys[k]) : xs.take (k + 1) = ys.take (k + 1) := by
  rw [List.take_succ_eq_append_getElem h1, List.take_succ_eq_append_getElem h2, h, he]
theorem ne_of_at {xs ys : List ByteArray} {k : Nat} (h1 : k < xs.length) (h2 : k < ys.length) (he : (xs[k].toList == ys[k].toList) = false) : decide (xs = ys) = false := by
  apply decide_eq_false
  intro h
  subst h
  simp at he

theorem eqStringS_any (A B : Option Addr) (c d : Nat) (xs ys : List ByteArray) (w : World) (hx : Rd w w.heap.size A (xs.map Value.string)) (hy : Rd w w.heap.size B (ys.map Value.string)) (hl : xs.length ≤ maxLen) (hl' : ys.length ≤ maxLen) :
    Calls Try.prog 33 #[.slice A xs.length c, .slice B ys.length d] w fun e w' => e = .returned (.bool (decide (xs = ys))) ∧ Below w.heap.size w w' := by
  unfold maxLen at hl hl'
  by_cases hne : xs.length = ys.length
  · generalize hr : decide (xs = ys) = r
    have HR := Lib.hid hr
    clear hr
    have hle : xs.length ≤ ys.length := by omega
    have hge : ys.length ≤ xs.length := by omega
    have HX := Lib.hid hx
    have HY := Lib.hid hy
    clear hx hy
    have hb0 : ((xs.length : Int) != (ys.length : Int)) = false := by rw [hne]; simp
    clear hne
    go_enter Try.func33, Try.ntmps33
    go_wp2
    go_loopw [5] (fun i wr => ∃ k q : Nat, k ≤ xs.length ∧ i = .int .i64 k ∧ xs.take k = ys.take k ∧ wr = w.drewN q) (fun i _ => xs.length - (intOf i).toNat)
    case atStart => exact ⟨0, 0, Nat.zero_le _, rfl, rfl, rfl⟩
    case round =>
      obtain ⟨k, q, hk, rfl, ht, rfl⟩ := hrel
      have HT := Lib.hid ht
      clear ht
      by_cases hlt : k < xs.length
      · have hlt' : k < ys.length := by omega
        obtain ⟨ad, rfl, _, hca⟩ := HX.out.at_ (map_at hlt)
        obtain ⟨bd, rfl, _, hcb⟩ := HY.out.at_ (map_at hlt')
        cases he : (xs[k].toList == ys[k].toList) with
        | true =>
          have hb1 : (xs[k].toList != ys[k].toList) = false := by simp [bne, he]
          go_wp2
          go_quiet (fail)
          go_wp2
          go_roundw
          case rel => exact ⟨k + 1, _, by omega, by go_num, take_eq_succ hlt hlt' HT.out (bytes_of_eq he), rfl⟩
          case measure => simp [intOf]; omega
        | false =>
          have hb1 : (xs[k].toList != ys[k].toList) = true := by simp [bne, he]
          go_wp2
          go_quiet (fail)
          go_wp2
          go_ret
          exact ⟨(by rw [show r = false from HR.out.symm.trans (ne_of_at hlt hlt' he)]; rfl), (by repeat (first | exact Below.refl _ _ | assumption | refine Below.drew ?_ | refine below_drewN ?_ _ | refine Below.setCell ?_ (by first | exact Nat.le_refl _ | exact Below.size (by assumption) | (simp; done) | (simp; omega) | omega) _ | refine Below.alloc ?_ (by first | exact Nat.le_refl _ | exact Below.size (by assumption) | (simp; done) | (simp; omega) | omega) _))⟩
      · go_wp2
        go_ret
        exact ⟨(by rw [show r = true from HR.out.symm.trans (decide_eq_true (by have := HT.out; rwa [List.take_of_length_le (by omega), List.take_of_length_le (by omega)] at this))]; rfl), (by repeat (first | exact Below.refl _ _ | assumption | refine Below.drew ?_ | refine below_drewN ?_ _ | refine Below.setCell ?_ (by first | exact Nat.le_refl _ | exact Below.size (by assumption) | (simp; done) | (simp; omega) | omega) _ | refine Below.alloc ?_ (by first | exact Nat.le_refl _ | exact Below.size (by assumption) | (simp; done) | (simp; omega) | omega) _))⟩
  · have hr : decide (xs = ys) = false := by
      simp
      intro h
      exact hne (by rw [h])
    rw [hr]
    clear hr hx hy
    have hb0 : ((xs.length : Int) != (ys.length : Int)) = true := by simp; omega
    clear hne
    go_enter Try.func33, Try.ntmps33
    go_wp2
    go_ret
    exact ⟨rfl, Below.refl _ _⟩
/-! ### lists that are copied, element by element -/
theorem set_next {α : Type} (f : α → Value) (z : Value) (xs : List α) (k : Nat) (h : k < xs.length) :
    ((xs.take k).map f ++ List.replicate (xs.length - k) z).set k (f xs[k]) = (xs.take (k + 1)).map f ++ List.replicate (xs.length - (k + 1)) z := by
  have hl : ((xs.take k).map f).length = k := by simp; omega
  rw [List.set_append, if_neg (by omega), hl, Nat.sub_self, List.take_succ_eq_append_getElem h, List.map_append, List.append_assoc]
  congr 1
  rw [show xs.length - k = (xs.length - (k + 1)) + 1 from by omega, List.replicate_succ]
  rfl
theorem set_mark {α : Type} (f : α → Value) (xs : List Value) (ys : Nat → Value) (k : Nat) (h : k < xs.length) :
    ((List.range k).map ys ++ xs.drop k).set k (ys k) = (List.range (k + 1)).map ys ++ xs.drop (k + 1) := by
  have hl : ((List.range k).map ys).length = k := by simp
  rw [List.set_append, if_neg (by omega), hl, Nat.sub_self, List.range_succ, List.map_append, List.append_assoc]
  congr 1
  rw [List.drop_eq_getElem_cons h]
  rfl
theorem infoString : (Try.prog.info? 9).map (fun i => (i.zero, i.size, i.bytes)) = some (some (.string ⟨#[]⟩), 1, 16) := by kernel_rfl

set_option maxRecDepth 100000 in
theorem toStringS_any (A : Option Addr) (c : Nat) (xs : List ByteArray) (w : World) (hx : Rd w w.heap.size A (xs.map Value.string)) (hl : xs.length ≤ 17592186044416) :
    Calls Try.prog 97 #[.slice A xs.length c] w fun e w' => ∃ v, e = .returned v ∧ w'.ownsRow w.heap.size 9 1 v xs.length (xs.map Value.string) ∧ Below w.heap.size w w' := by
  obtain ⟨i0, hi, hz0, hz1, hz2⟩ := info_parts infoString
  have HX := Lib.hid hx
  clear hx
  have hz2' : i0.bytes * xs.length ≤ 281474976710656 := by rw [hz2]; omega
  have HI := Lib.hid (And.intro hi (And.intro hz0 (And.intro hz1 hz2')))
  clear hi hz0 hz1 hz2 hz2'
  go_enter Try.func97, Try.ntmps97
  go_wp2_with (at_make; refine wpList_make_full _ rfl _ _ _ rfl w.heap.size 9 i0 (.string ⟨#[]⟩) 1 Try.underlying29 HI.out.1 HI.out.2.1 HI.out.2.2.1 _ _ _ _ xs.length rfl rfl rfl rfl HI.out.2.2.2 (by simp only [maxLen]; omega) (Nat.le_refl _) ?_; intro w1 hown1 hg1)
  have hown2 : w1.ownsRow w.heap.size 9 1 (.slice (some ⟨w.heap.size, 0, none⟩) xs.length xs.length) xs.length ((xs.take 0).map Value.string ++ List.replicate (xs.length - 0) (.string ⟨#[]⟩)) := by
    rw [show (madeCells (Value.string ⟨#[]⟩).cells (xs.length * 1)).toList = List.replicate xs.length (.string ⟨#[]⟩) from by rw [Nat.mul_one]; exact toList_madeCells_one _ _] at hown1
    simpa using hown1
  have HO := Lib.hid hown2
  have hb1 : Below w.heap.size w w1 := below_grown none hg1 (Nat.le_refl _) (by simp)
  clear hown1 hown2 hg1
  go_wp2
  go_loopw [4] (fun i wr => ∃ k : Nat, k ≤ xs.length ∧ i = .int .i64 k ∧ wr.ownsRow w.heap.size 9 1 (.slice (some ⟨w.heap.size, 0, none⟩) xs.length xs.length) xs.length ((xs.take k).map Value.string ++ List.replicate (xs.length - k) (.string ⟨#[]⟩)) ∧ Below w.heap.size w wr) (fun i _ => xs.length - (intOf i).toNat)
  case atStart => exact ⟨0, Nat.zero_le _, rfl, HO.out, hb1⟩
  case round =>
    obtain ⟨k, hk, rfl, ho, hb⟩ := hrel
    have HK := Lib.hid ho
    clear ho HO
    by_cases hlt : k < xs.length
    · obtain ⟨ad, rfl, _, hca⟩ := (HX.out.below hb).at_ (map_at hlt)
      have hfr := HK.out.frozenAt k
      have hce := HK.out.cellAt k (by omega)
      have hce' : ∃ u, wr.cell? ⟨w.heap.size, k, none⟩ = some u := by
        rw [hce]
        exact ⟨_, List.getElem?_eq_getElem (by simp; omega)⟩
      obtain ⟨u, hcu⟩ := hce'
      clear hce
      go_wp2
      go_roundw
      case rel => exact ⟨k + 1, by omega, by go_num, (by have h := (HK.out.stored k (.string xs[k])).1; rwa [set_next Value.string _ xs k hlt] at h), hb.setCell (Nat.le_refl _) _⟩
      case measure => simp [intOf]; omega
    · go_wp2
      go_ret
      refine ⟨_, rfl, ?_, hb⟩
      have h := HK.out
      rw [List.take_of_length_le (by omega), show xs.length - k = 0 from by omega] at h
      simpa using h

theorem szStringS_any (A : Option Addr) (c : Nat) (xs : List ByteArray) (left : Int) (w : World) (hx : Rd w w.heap.size A (xs.map Value.string)) (hl : xs.length ≤ 17592186044416) (h0 : 0 ≤ left) (h1 : left ≤ 1048576) (hs : ∀ s ∈ xs, s.size ≤ maxLen) :
    Calls Try.prog 95 #[.slice A xs.length c, .int .i64 left] w fun e w' => ∃ n : Int, e = .returned (.int .i64 n) ∧ n ≤ 1048576 ∧ (0 ≤ n → xs.length + n ≤ left ∧ ∀ s ∈ xs, s.size + n ≤ left) ∧ w = w' := by
  unfold maxLen at hs
  have HX := Lib.hid hx
  have HS := Lib.hid hs
  clear hx hs
  by_cases hneg : left < xs.length
  · go_enter Try.func95, Try.ntmps95
    go_wp2
    go_ret
    exact ⟨_, rfl, by omega, fun h => by omega, rfl⟩
  · go_enter Try.func95, Try.ntmps95
    go_wp2
    go_loop [1, 5] (fun l i => ∃ (k : Nat) (m : Int), k ≤ xs.length ∧ i = .int .i64 k ∧ l = .int .i64 m ∧ 0 ≤ m ∧ m + xs.length ≤ left ∧ ∀ s ∈ xs.take k, s.size + m ≤ left) (fun _ i => xs.length - (intOf i).toNat)
    case atStart => exact ⟨0, left - xs.length, Nat.zero_le _, rfl, rfl, by omega, by omega, by simp⟩
    case round =>
      obtain ⟨k, m, hk, rfl, rfl, hm, hml, hall⟩ := hrel
      have HA := Lib.hid hall
      clear hall
      by_cases hlt : k < xs.length
      · obtain ⟨ad, rfl, _, hca⟩ := HX.out.at_ (map_at hlt)
        have hsz := HS.out xs[k] (List.getElem_mem _)
        by_cases hle : (xs[k].size : Int) ≤ m
        · go_wp2
          go_round
          case rel =>
            refine ⟨k + 1, m - xs[k].size, by omega, by go_num, rfl, by omega, by omega, fun s hs => ?_⟩
            rw [List.take_succ_eq_append_getElem hlt, List.mem_append] at hs
            rcases hs with hs | hs
            · have := HA.out s hs
              omega
            · simp at hs
              subst hs
              omega
          case measure => simp [intOf]; omega
        · go_wp2
          go_ret
          exact ⟨_, rfl, by omega, fun h => by omega, rfl⟩
      · go_wp2
        go_ret
        refine ⟨m, rfl, by omega, fun _ => ⟨by omega, fun s hs => HA.out s (by rwa [List.take_of_length_le (by omega)])⟩, rfl⟩

/-- The marks from k on. -/
def marks (k : Int) (n : Nat) : List Value := (List.range n).map fun (i : Nat) => .string (mkT (k + i))
theorem marks_at {k : Int} {n i : Nat} (h : i < n) : (marks k n)[i]? = some (.string (mkT (k + i))) := by simp [marks, h]
theorem marks_nil (w : World) (B : Nat) (A : Option Addr) (k : Int) : Rd w B A (marks k 0) := by simp only [marks, List.range_zero, List.map_nil]; exact Rd.nil _ _ _
theorem heldStringS_any (A : Option Addr) (c n : Nat) (k : Int) (w : World) (hx : Rd w w.heap.size A (marks k n)) (hl : n ≤ 17592186044416) (h0 : 0 ≤ k) (h1 : k ≤ 17592186044416) :
    Calls Try.prog 37 #[.slice A n c, .int .i64 k] w fun e w' => e = .returned (.int .i64 (k + n)) ∧ Below w.heap.size w w' := by
  have HX := Lib.hid hx
  clear hx
  go_enter Try.func37, Try.ntmps37
  go_wp2
  go_loopw [1, 5] (fun l i wr => ∃ j : Nat, j ≤ n ∧ i = .int .i64 j ∧ l = .int .i64 (k + j) ∧ Below w.heap.size w wr) (fun _ i _ => n - (intOf i).toNat)
  case atStart => exact ⟨0, Nat.zero_le _, rfl, by simp, Below.refl _ _⟩
  case round =>
    obtain ⟨j, hj, rfl, rfl, hb⟩ := hrel
    by_cases hlt : j < n
    · obtain ⟨ad, rfl, hlt2, hca⟩ := (HX.out.below hb).at_ (marks_at hlt)
      have hcl := hb.size
      go_wp2
      go_region_held3 (fun w' => w'.cell? (ad.add j) = some (.string (mkT (k + j))) ∧ Below w.heap.size w w') ((refine ⟨?_, ?_⟩ <;> first | exact hca | exact hb.drew | exact below_after hb.drew hb2 | exact (hb2.cell (p := ad.add j) (by rw [add_block]; exact Nat.lt_of_lt_of_le hlt2 hcl)).trans hca))
        (first | (go_at_call 110; refine (markText_any _ _ (by omega)).mono ?_; rintro e w2 ⟨rfl, hb2⟩))
      go_wp2
      go_roundw
      case rel => exact ⟨j + 1, by omega, by go_num, by go_num, below_after hb.drew hb2⟩
      case measure => simp [intOf]; omega
    · go_wp2
      go_ret
      exact ⟨ret_i (by omega), hb⟩
theorem own_none {w : World} {base : Nat} {e : TypeId} {size n c : Nat} {xs : List Value} (h : w.ownsRow base e size (.slice none n c) n xs) : n = 0 ∧ xs = [] := by
  have hn : n = 0 := by
    rcases h.2 with ⟨_, hn⟩ | ⟨g, cap, cur, hv, _⟩
    · exact hn
    · cases hv
  subst hn
  exact ⟨rfl, List.eq_nil_of_length_eq_zero (by simpa using h.1)⟩
theorem markStringS_any (base : Nat) (v : Value) (n : Nat) (xs : List Value) (k : Int) (w : World) (hv : w.ownsRow base 9 1 v n xs) (hl : n ≤ 17592186044416) (h0 : 0 ≤ k) (h1 : k ≤ 17592186044416) :
    Calls Try.prog 36 #[v, .int .i64 k] w fun e w' => e = .returned (.int .i64 (k + n)) ∧ w'.ownsRow base 9 1 v n (marks k n) ∧ w.grownBy w' v.ownBlock := by
  rcases hv.2 with ⟨rfl, rfl⟩ | ⟨g, cap, cur, rfl, hbase, hg, hc⟩
  · go_enter Try.func36, Try.ntmps36
    go_wp2
    go_loopw [1, 5] (fun l i wr => i = .int .i64 0 ∧ l = .int .i64 k ∧ wr = w) (fun _ i _ => 0)
    case atStart => exact ⟨rfl, rfl, rfl⟩
    case round =>
      obtain ⟨rfl, rfl, rfl⟩ := hrel
      go_wp2
      go_ret
      exact ⟨ret_i (by omega), ⟨by simp [marks], .inl ⟨rfl, rfl⟩⟩, World.grownBy.refl _ _⟩
  · have hlen : xs.length = n := by simpa using hv.1
    have HV := Lib.hid hv
    clear hv hc
    have hgl : g < w.heap.size := (Array.getElem?_eq_some_iff.1 hg).1
    clear hg
    go_enter Try.func36, Try.ntmps36
    go_wp2
    have HL := Lib.hid hlen
    clear hlen
    go_loopw [1, 5] (fun l i wr => ∃ j : Nat, j ≤ n ∧ i = .int .i64 j ∧ l = .int .i64 (k + j) ∧ wr.ownsRow base 9 1 (.slice (some ⟨g, 0, none⟩) n cap) n ((List.range j).map (fun (i : Nat) => Value.string (mkT (k + i))) ++ xs.drop j) ∧ w.grownBy wr (some g)) (fun _ i _ => n - (intOf i).toNat)
    case atStart => exact ⟨0, Nat.zero_le _, rfl, by simp, by simpa using HV.out, World.grownBy.refl _ _⟩
    case round =>
      obtain ⟨j, hj, rfl, rfl, ho, hgr⟩ := hrel
      have HO := Lib.hid ho
      clear ho
      have hgl2 : g < wr.heap.size := Nat.lt_of_lt_of_le hgl hgr.size
      by_cases hlt : j < n
      · go_wp2_with (go_at_call 110; refine (markText_any _ _ (by omega)).mono ?_; rintro e w2 ⟨rfl, hb2⟩; have ho2 := own_below HO.out hb2; have hfr := ho2.frozenAt j; have hcu : ∃ u, w2.cell? ⟨g, j, none⟩ = some u := (by rw [ho2.cellAt j (by omega)]; exact ⟨_, List.getElem?_eq_getElem (by have := HL.out; simp; omega)⟩); obtain ⟨u, hcu⟩ := hcu; have HO2 := Lib.hid ho2; clear ho2)
        go_roundw
        case rel =>
          have hst := HO2.out.stored j (.string (mkT (k + j)))
          refine ⟨j + 1, by omega, by go_num, by go_num, ?_, grown_after hgr (grown_after (grown_below hb2 _) hst.2)⟩
          have h := hst.1
          rwa [set_mark (fun (_ : Unit) => u) xs (fun i => Value.string (mkT (k + i))) j (by have := HL.out; omega)] at h
        case measure => simp [intOf]; omega
      · go_wp2
        go_ret
        refine ⟨ret_i (by omega), ?_, hgr⟩
        have h := HO.out
        obtain rfl : j = n := by omega
        rwa [List.drop_of_length_le (by have := HL.out; omega), List.append_nil] at h
end Go.Proofs.Ytlfnpnkpjdmonaa
