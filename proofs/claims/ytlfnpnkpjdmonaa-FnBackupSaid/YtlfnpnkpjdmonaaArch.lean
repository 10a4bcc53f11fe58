import Derived.Test.YtlfnpnkpjdmonaaReadW
import Derived.Test.YtlfnpnkpjdmonaaLink
import Derived.Lib.SlBytesConst
import Derived.Deep.AppendSrc
set_option linter.unusedVariables false
set_option linter.unusedSimpArgs false
namespace Go.Proofs.Ytlfnpnkpjdmonaa
open Go.RowKit

/-! ### the law's helpers at lists of backups: sizes -/
/-- sizes of a machine -/
def DG (d : Df) : Prop := d.key.size ≤ maxLen ∧ d.old.size ≤ maxLen ∧ d.new.size ≤ maxLen
theorem szDiff_any (d : Df) (left : Int) (w : World) (h0 : 0 ≤ left) (h1 : left ≤ 1048576) (hs : DG d) :
    Calls Try.prog 248 #[dfV d, .int .i64 left] w fun e w' => ∃ n : Int, e = .returned (.int .i64 n) ∧ n ≤ left ∧ (0 ≤ n → DSz d) ∧ Below w.heap.size w w' := by
  obtain ⟨s1, s2, s3⟩ := hs
  unfold maxLen at s1 s2 s3
  by_cases ha : left - d.key.size < 0
  · go_enter Try.func248, Try.ntmps248
    go_wp2
    go_ret
    exact ⟨-1, rfl, by omega, fun h => by omega, by repeat (first | exact Below.refl _ _ | assumption | refine Below.drew ?_ | refine below_drewN ?_ _ | refine Below.setCell ?_ (by first | exact Nat.le_refl _ | exact Below.size (by assumption) | (simp; done) | (simp; omega) | omega) _ | refine Below.alloc ?_ (by first | exact Nat.le_refl _ | exact Below.size (by assumption) | (simp; done) | (simp; omega) | omega) _)⟩
  · by_cases hb : left - d.key.size - d.old.size < 0
    · go_enter Try.func248, Try.ntmps248
      go_wp2
      go_ret
      exact ⟨-1, rfl, by omega, fun h => by omega, by repeat (first | exact Below.refl _ _ | assumption | refine Below.drew ?_ | refine below_drewN ?_ _ | refine Below.setCell ?_ (by first | exact Nat.le_refl _ | exact Below.size (by assumption) | (simp; done) | (simp; omega) | omega) _ | refine Below.alloc ?_ (by first | exact Nat.le_refl _ | exact Below.size (by assumption) | (simp; done) | (simp; omega) | omega) _)⟩
    · by_cases hc : left - d.key.size - d.old.size - d.new.size < 0
      · go_enter Try.func248, Try.ntmps248
        go_wp2
        go_ret
        exact ⟨-1, rfl, by omega, fun h => by omega, by repeat (first | exact Below.refl _ _ | assumption | refine Below.drew ?_ | refine below_drewN ?_ _ | refine Below.setCell ?_ (by first | exact Nat.le_refl _ | exact Below.size (by assumption) | (simp; done) | (simp; omega) | omega) _ | refine Below.alloc ?_ (by first | exact Nat.le_refl _ | exact Below.size (by assumption) | (simp; done) | (simp; omega) | omega) _)⟩
      · go_enter Try.func248, Try.ntmps248
        go_wp2
        go_ret
        exact ⟨left - d.key.size - d.old.size - d.new.size, rfl, by omega, fun h => ⟨by omega, by omega, by omega⟩, by repeat (first | exact Below.refl _ _ | assumption | refine Below.drew ?_ | refine below_drewN ?_ _ | refine Below.setCell ?_ (by first | exact Nat.le_refl _ | exact Below.size (by assumption) | (simp; done) | (simp; omega) | omega) _ | refine Below.alloc ?_ (by first | exact Nat.le_refl _ | exact Below.size (by assumption) | (simp; done) | (simp; omega) | omega) _)⟩
theorem szDiffS_any (A : Option Addr) (c : Nat) (xs : List Df) (left : Int) (w : World) (hx : Rd w w.heap.size A (flat encD xs)) (hl : xs.length ≤ maxLen) (h0 : 0 ≤ left) (h1 : left ≤ 1048576) (hs : ∀ d ∈ xs, DG d) :
    Calls Try.prog 222 #[.slice A xs.length c, .int .i64 left] w fun e w' => ∃ n : Int, e = .returned (.int .i64 n) ∧ n ≤ left ∧ (0 ≤ n → xs.length ≤ 1048576 ∧ ∀ d ∈ xs, DSz d) ∧ Below w.heap.size w w' := by
  unfold maxLen at hl
  have HX := Lib.hid hx
  have HS := Lib.hid hs
  clear hx hs
  by_cases hneg : left < xs.length
  · go_enter Try.func222, Try.ntmps222
    go_wp2
    go_ret
    exact ⟨-1, rfl, by omega, fun h => by omega, Below.refl _ _⟩
  · go_enter Try.func222, Try.ntmps222
    go_wp2
    go_loopw [1, 5] (fun l i wr => ∃ (k : Nat) (m : Int), k ≤ xs.length ∧ i = .int .i64 k ∧ l = .int .i64 m ∧ 0 ≤ m ∧ m ≤ left ∧ (∀ p ∈ xs.take k, DSz p) ∧ Below w.heap.size w wr) (fun _ i _ => xs.length - (intOf i).toNat)
    case atStart => exact ⟨0, left - xs.length, Nat.zero_le _, rfl, rfl, by omega, by omega, by simp, Below.refl _ _⟩
    case round =>
      obtain ⟨k, m, hk, rfl, rfl, hm, hml, hall, hb⟩ := hrel
      have HA := Lib.hid hall
      clear hall
      by_cases hlt : k < xs.length
      · obtain ⟨ad, rfl, _, c0, c1, c2, c3, c4⟩ := (HX.out.below hb).df hlt
        have HD := Lib.hid (HS.out xs[k] (List.getElem_mem _))
        have HTK : Hid (xs.take (k + 1) = xs.take k ++ [xs[k]]) := List.take_succ_eq_append_getElem hlt
        generalize hgx : xs[k] = x at *
        clear hgx
        go_wp2_with fail
        refine (szDiff_any x _ _ hm (by omega) HD.out).mono ?_
        rintro e w1 ⟨n, rfl, hn1, hn2, hb1⟩
        have HN := Lib.hid hn2
        clear hn2
        have hb2 := below_after hb hb1
        clear hb1
        by_cases hn : n < 0
        · go_wp2
          go_ret
          exact ⟨-1, rfl, by omega, fun h => by omega, hb2⟩
        · go_wp2
          go_roundw
          case rel =>
            refine ⟨k + 1, n, by omega, by go_num, rfl, by omega, by omega, fun p hp => ?_, hb2⟩
            rw [HTK.out, List.mem_append] at hp
            rcases hp with hp | hp
            · exact HA.out p hp
            · rw [List.mem_singleton.1 hp]; exact HN.out (by omega)
          case measure => simp [intOf]; omega
      · go_wp2
        go_ret
        exact ⟨m, rfl, by omega, fun _ => ⟨by omega, fun p hp => HA.out p (by rwa [List.take_of_length_le (by omega)])⟩, hb⟩
@[reducible] def Bk.v (m : Bk) : Value := bkV m.f m.t m.ch m.D m.ds.length m.dc m.sm
/-- a backup as it is given: its sizes are those of a machine -/
structure BkG (m : Bk) : Prop where
  fl : m.f.size ≤ maxLen
  tl : m.t.size ≤ maxLen
  dl : m.ds.length ≤ maxLen
  ds : ∀ d ∈ m.ds, DG d
/-- .. and, where the law goes on, small -/
def BkSm (m : Bk) : Prop := m.ds.length ≤ 1048576 ∧ ∀ d ∈ m.ds, DSz d
theorem szBackup_any (m : Bk) (left : Int) (w : World) (hx : Rd w w.heap.size m.D (flat encD m.ds)) (hg : BkG m) (h0 : 0 ≤ left) (h1 : left ≤ 1048576) :
    Calls Try.prog 158 #[m.v, .int .i64 left] w fun e w' => ∃ n : Int, e = .returned (.int .i64 n) ∧ n ≤ left ∧ (0 ≤ n → BkSm m) ∧ Below w.heap.size w w' := by
  have hfl := hg.fl
  have htl := hg.tl
  unfold maxLen at hfl htl
  have hb1 : Below w.heap.size w (w.alloc (.cells #[.string m.f, .string m.t, .int .i64 m.ch, .slice m.D m.ds.length m.dc, .int .i64 m.sm] 171)) := (Below.refl _ _).alloc (Nat.le_refl _) _
  have HX := Lib.hid (hx.next hb1)
  have HG := Lib.hid hg
  have HB := Lib.hid hb1
  clear hx hg hb1
  by_cases ha : left - m.f.size < 0
  · go_enter Try.func158, Try.ntmps158
    go_wp2
    go_ret
    exact ⟨-1, rfl, by omega, fun h => by omega, HB.out⟩
  · by_cases ha2 : left - m.f.size - m.t.size < 0
    · go_enter Try.func158, Try.ntmps158
      go_wp2
      go_ret
      exact ⟨-1, rfl, by omega, fun h => by omega, HB.out⟩
    · go_enter Try.func158, Try.ntmps158
      go_wp2_with fail
      refine (szDiffS_any _ _ _ _ _ HX.out HG.out.dl (by omega) (by omega) HG.out.ds).mono ?_
      rintro e w1 ⟨n, rfl, hn1, hn2, hb1⟩
      have hb2 := below_after HB.out hb1
      clear hb1
      by_cases hb : n < 0
      · go_wp2
        go_ret
        exact ⟨-1, rfl, by omega, fun h => by omega, hb2⟩
      · have hn3 := hn2 (by omega)
        clear hn2
        go_wp2
        go_ret
        exact ⟨n, rfl, by omega, fun h => hn3, hb2⟩
/-- the cells of a list of backups, and of what each holds -/
def BRd (w : World) (B : Nat) (A : Option Addr) (l : List Bk) : Prop := Rd w B A (flat encBk l) ∧ ∀ k ∈ l, Rd w B k.D (flat encD k.ds)
theorem BRd.keep {w w' : World} {B : Nat} {A : Option Addr} {l : List Bk} (h : BRd w B A l) (hk : ∀ p : Addr, p.block < B → w'.cell? p = w.cell? p) : BRd w' B A l := ⟨h.1.keep hk, fun k hm => (h.2 k hm).keep hk⟩
theorem BRd.below {w w' : World} {B : Nat} {A : Option Addr} {l : List Bk} (h : BRd w B A l) (hb : Below B w w') : BRd w' B A l := h.keep fun _ hp => hb.cell hp
theorem BRd.more {w : World} {B B' : Nat} {A : Option Addr} {l : List Bk} (h : BRd w B A l) (hB : B ≤ B') : BRd w B' A l := ⟨h.1.more hB, fun k hm => (h.2 k hm).more hB⟩
theorem BRd.next {w w' : World} {A : Option Addr} {l : List Bk} (h : BRd w w.heap.size A l) (hb : Below w.heap.size w w') : BRd w' w'.heap.size A l := (h.below hb).more hb.size
set_option maxRecDepth 100000 in
theorem szBackupS_any (A : Option Addr) (c : Nat) (xs : List Bk) (left : Int) (w : World) (hx : BRd w w.heap.size A xs) (hl : xs.length ≤ maxLen) (h0 : 0 ≤ left) (h1 : left ≤ 1048576) (hs : ∀ k ∈ xs, BkG k) :
    Calls Try.prog 76 #[.slice A xs.length c, .int .i64 left] w fun e w' => ∃ n : Int, e = .returned (.int .i64 n) ∧ n ≤ left ∧ (0 ≤ n → xs.length ≤ 1048576 ∧ ∀ k ∈ xs, BkSm k) ∧ Below w.heap.size w w' := by
  unfold maxLen at hl
  have HX := Lib.hid hx
  have HS := Lib.hid hs
  clear hx hs
  by_cases hneg : left < xs.length
  · go_enter Try.func76, Try.ntmps76
    go_wp2
    go_ret
    exact ⟨-1, rfl, by omega, fun h => by omega, Below.refl _ _⟩
  · go_enter Try.func76, Try.ntmps76
    go_wp2
    go_loopw [1, 5] (fun l i wr => ∃ (k : Nat) (m : Int), k ≤ xs.length ∧ i = .int .i64 k ∧ l = .int .i64 m ∧ 0 ≤ m ∧ m ≤ left ∧ (∀ p ∈ xs.take k, BkSm p) ∧ Below w.heap.size w wr) (fun _ i _ => xs.length - (intOf i).toNat)
    case atStart => exact ⟨0, left - xs.length, Nat.zero_le _, rfl, rfl, by omega, by omega, by simp, Below.refl _ _⟩
    case round =>
      obtain ⟨k, m, hk, rfl, rfl, hm, hml, hall, hb⟩ := hrel
      have HA := Lib.hid hall
      clear hall
      by_cases hlt : k < xs.length
      · obtain ⟨ad, rfl, _, c0, c1, c2, c3, c4⟩ := (HX.out.1.below hb).bk hlt
        have HM : Hid (∀ W : World, Rd W W.heap.size xs[k].D (flat encD xs[k].ds) → ∀ l : Int, 0 ≤ l → l ≤ 1048576 → Calls Try.prog 158 #[xs[k].v, .int .i64 l] W fun e w' => ∃ n : Int, e = .returned (.int .i64 n) ∧ n ≤ l ∧ (0 ≤ n → BkSm xs[k]) ∧ Below W.heap.size W w') := fun W h l h0 h1 => szBackup_any xs[k] l W h (HS.out _ (List.getElem_mem _)) h0 h1
        have HR := Lib.hid (HX.out.2 xs[k] (List.getElem_mem _))
        go_wp2_with fail
        refine (HM.out _ (HR.out.next hb) _ hm (by omega)).mono ?_
        rintro e w1 ⟨n, rfl, hn1, hn2, hb1⟩
        have hb2 := below_after hb hb1
        clear hb1
        by_cases hn : n < 0
        · clear hn2
          go_wp2
          go_ret
          exact ⟨-1, rfl, by omega, fun h => by omega, hb2⟩
        · have HN3 := Lib.hid (hn2 (by omega))
          clear hn2
          go_wp2
          go_roundw
          case rel =>
            refine ⟨k + 1, n, by omega, by go_num, rfl, by omega, by omega, fun p hp => ?_, hb2⟩
            rw [List.take_succ_eq_append_getElem hlt, List.mem_append] at hp
            rcases hp with hp | hp
            · exact HA.out p hp
            · simp at hp
              subst hp
              exact HN3.out
          case measure => simp [intOf]; omega
      · go_wp2
        go_ret
        exact ⟨m, rfl, by omega, fun _ => ⟨by omega, fun p hp => HA.out p (by rwa [List.take_of_length_le (by omega)])⟩, hb⟩

/-! ### they are copied -/
theorem toDiff_any (p : Df) (w : World) : Calls Try.prog 249 #[dfV p] w fun e w' => e = .returned (dfV p) ∧ Below w.heap.size w w' := by
  go_enter Try.func249, Try.ntmps249
  go_wp2
  refine bodyPost_ret (v := dfV p) (by simp [results, Try.results249, go_sem]) rfl ⟨rfl, ?_⟩
  repeat (first | exact Below.refl _ _ | assumption | refine Below.drew ?_ | refine below_drewN ?_ _ | refine Below.setCell ?_ (by first | exact Nat.le_refl _ | exact Below.size (by assumption) | (simp; done) | (simp; omega) | omega) _ | refine Below.alloc ?_ (by first | exact Nat.le_refl _ | exact Below.size (by assumption) | (simp; done) | (simp; omega) | omega) _)
set_option maxRecDepth 100000 in
set_option maxHeartbeats 1000000 in
theorem toDiffS_any (A : Option Addr) (c : Nat) (xs : List Df) (w : World) (hx : Rd w w.heap.size A (flat encD xs)) (hl : xs.length ≤ 1048576) :
    Calls Try.prog 223 #[.slice A xs.length c] w (MadeD xs w) := by
  obtain ⟨i0, hi, hz0, hz1, hz2⟩ := info_parts infoDiff
  have HX := Lib.hid hx
  clear hx
  have hz2' : i0.bytes * xs.length ≤ 281474976710656 := by rw [hz2]; omega
  have HI := Lib.hid (And.intro hi (And.intro hz0 (And.intro hz1 hz2')))
  clear hi hz0 hz1 hz2 hz2'
  go_enter Try.func223, Try.ntmps223
  go_wp2_with (at_make; refine wpList_make_full _ rfl _ _ _ rfl w.heap.size 145 i0 (.agg #[.string ⟨#[]⟩, .string ⟨#[]⟩, .string ⟨#[]⟩, .bool false, .bool false]) 5 Try.underlying69 HI.out.1 HI.out.2.1 HI.out.2.2.1 _ _ _ _ xs.length rfl rfl rfl rfl HI.out.2.2.2 (by simp only [maxLen]; omega) (Nat.le_refl _) ?_; intro w1 hown1 hg1)
  have hZ : (madeCells (Value.cells (.agg #[.string ⟨#[]⟩, .string ⟨#[]⟩, .string ⟨#[]⟩, .bool false, .bool false])) (xs.length * 5)).toList.length = xs.length * 5 := by simp [madeCells]
  generalize hgz : (madeCells (Value.cells (.agg #[.string ⟨#[]⟩, .string ⟨#[]⟩, .string ⟨#[]⟩, .bool false, .bool false])) (xs.length * 5)).toList = Z at *
  have hown2 : w1.ownsRow w.heap.size 145 5 (.slice (some ⟨w.heap.size, 0, none⟩) xs.length xs.length) xs.length (flat encD (xs.take 0) ++ Z) := hown1
  have HO := Lib.hid hown2
  have HZ := Lib.hid hZ
  have hb1 : Below w.heap.size w w1 := below_grown none hg1 (Nat.le_refl _) (by simp)
  have hq1 : w.heap.size < w1.heap.size := (hown2.lt _ rfl).2
  clear hown1 hown2 hg1 hgz hZ
  go_wp2
  go_loopw [4] (fun i wr => ∃ (k : Nat) (Z : List Value), k ≤ xs.length ∧ i = .int .i64 k ∧ Z.length = (xs.length - k) * 5 ∧ wr.ownsRow w.heap.size 145 5 (.slice (some ⟨w.heap.size, 0, none⟩) xs.length xs.length) xs.length (flat encD (xs.take k) ++ Z) ∧ Below w.heap.size w wr) (fun i _ => xs.length - (intOf i).toNat)
  case atStart => exact ⟨0, Z, Nat.zero_le _, rfl, HZ.out, HO.out, hb1⟩
  case round =>
    obtain ⟨k, Z, hk, rfl, hZ, ho, hb⟩ := hrel
    have HK := Lib.hid ho
    have HZ2 := Lib.hid hZ
    clear ho HO HZ hZ
    by_cases hlt : k < xs.length
    · obtain ⟨ad, rfl, hbl, c0, c1, c2, c3, c4⟩ := (HX.out.below hb).df hlt
      go_wp2_with fail
      refine (toDiff_any xs[k] _).mono ?_
      rintro e w2 ⟨rfl, hb2⟩
      have ho2 := own_below HK.out hb2
      have hb3 := below_after hb hb2
      have hfl : (flat encD (List.take k xs) ++ Z).length = xs.length * 5 := ho2.1
      have hce0 : ∃ u, w2.cell? ⟨w.heap.size, k * 5, none⟩ = some u := by
        rw [ho2.cellAt (k * 5) (by omega)]
        exact ⟨_, List.getElem?_eq_getElem (by omega)⟩
      obtain ⟨u0, hcu0⟩ := hce0
      have hfr0 := ho2.frozenAt (k * 5)
      have hce1 : ∃ u, w2.cell? ⟨w.heap.size, k * 5 + 1, none⟩ = some u := by
        rw [ho2.cellAt (k * 5 + 1) (by omega)]
        exact ⟨_, List.getElem?_eq_getElem (by omega)⟩
      obtain ⟨u1, hcu1⟩ := hce1
      have hfr1 := ho2.frozenAt (k * 5 + 1)
      have hce2 : ∃ u, w2.cell? ⟨w.heap.size, k * 5 + 1 + 1, none⟩ = some u := by
        rw [ho2.cellAt (k * 5 + 1 + 1) (by omega)]
        exact ⟨_, List.getElem?_eq_getElem (by omega)⟩
      obtain ⟨u2, hcu2⟩ := hce2
      have hfr2 := ho2.frozenAt (k * 5 + 1 + 1)
      have hce3 : ∃ u, w2.cell? ⟨w.heap.size, k * 5 + 1 + 1 + 1, none⟩ = some u := by
        rw [ho2.cellAt (k * 5 + 1 + 1 + 1) (by omega)]
        exact ⟨_, List.getElem?_eq_getElem (by omega)⟩
      obtain ⟨u3, hcu3⟩ := hce3
      have hfr3 := ho2.frozenAt (k * 5 + 1 + 1 + 1)
      have hce4 : ∃ u, w2.cell? ⟨w.heap.size, k * 5 + 1 + 1 + 1 + 1, none⟩ = some u := by
        rw [ho2.cellAt (k * 5 + 1 + 1 + 1 + 1) (by omega)]
        exact ⟨_, List.getElem?_eq_getElem (by omega)⟩
      obtain ⟨u4, hcu4⟩ := hce4
      have hfr4 := ho2.frozenAt (k * 5 + 1 + 1 + 1 + 1)
      have HO2 := Lib.hid ho2
      have HF := Lib.hid hfl
      clear ho2 hfl c0 c1 c2 c3 c4 hb2 HK
      go_wp2
      go_roundw
      case rel =>
        have hfit := HF.out
        have hZl := HZ2.out
        refine ⟨k + 1, Z.drop 5, by omega, by go_num, by simp; omega, ?_, below_setCells (Nat.le_refl _) (encD xs[k]) (k * 5) _ hb3⟩
        have h := (own_setCells (w := w2) (encD xs[k]) (k * 5) _ _ HO2.out (by rw [encD_len]; omega)).1
        have e := put_elem encD_len (xs.take k) xs[k] Z (by omega)
        rw [List.length_take, show min k xs.length = k from by omega, ← List.take_succ_eq_append_getElem hlt] at e
        rw [← e]
        exact h
      case measure => simp [intOf]; omega
    · go_wp2
      go_ret
      refine ⟨_, rfl, ?_, hb⟩
      have h := HK.out
      have hZl := HZ2.out
      obtain rfl : Z = [] := List.eq_nil_of_length_eq_zero (by rw [hZl]; omega)
      rw [List.append_nil, List.take_of_length_le (by omega)] at h
      exact h
theorem infoBackup : (Try.prog.info? 86).map (fun i => (i.zero, i.size, i.bytes)) = some (some (.agg #[.string ⟨#[]⟩, .string ⟨#[]⟩, .int .i64 0, .slice none 0 0, .int .i64 0]), 5, 72) := by kernel_rfl
def Bk.data (m : Bk) : ByteArray × ByteArray × Int × List Df × Int := (m.f, m.t, m.ch, m.ds, m.sm)
@[reducible] def Bk.row (m : Bk) : Value := .slice m.D m.ds.length m.dc
def ToB (m : Bk) (w : World) (e : Ending) (w' : World) : Prop := ∃ A c, e = .returned (bkV m.f m.t m.ch A m.ds.length c m.sm) ∧ w'.ownsRow w.heap.size 145 5 (.slice A m.ds.length c) m.ds.length (flat encD m.ds) ∧ Below w.heap.size w w'
set_option maxRecDepth 100000 in
set_option maxHeartbeats 1000000 in
theorem toBackup_any (m : Bk) (w : World) (hx : Rd w w.heap.size m.D (flat encD m.ds)) (hl : m.ds.length ≤ 1048576) :
    Calls Try.prog 159 #[m.v] w (ToB m w) := by
  have HX := Lib.hid hx
  clear hx
  go_enter Try.func159, Try.ntmps159
  go_wp2_with fail
  refine (toDiffS_any _ _ m.ds _ (by exact Rd.next HX.out (by repeat (first | exact Below.refl _ _ | assumption | refine Below.drew ?_ | refine below_drewN ?_ _ | refine Below.setCell ?_ (by first | exact Nat.le_refl _ | exact Below.size (by assumption) | (simp; done) | (simp; omega) | omega) _ | refine Below.alloc ?_ (by first | exact Nat.le_refl _ | exact Below.size (by assumption) | (simp; done) | (simp; omega) | omega) _))) hl).mono ?_
  rintro e w1 ⟨v1, rfl, ho1, hb1⟩
  obtain ⟨A1, c1, rfl, _⟩ := own_form ho1
  obtain ⟨hc1, hf1⟩ := bcell hb1; have hB1 : Below w.heap.size w w1 := Below.trans (by repeat (first | exact Below.refl _ _ | assumption | refine Below.drew ?_ | refine below_drewN ?_ _ | refine Below.setCell ?_ (by first | exact Nat.le_refl _ | exact Below.size (by assumption) | (simp; done) | (simp; omega) | omega) _ | refine Below.alloc ?_ (by first | exact Nat.le_refl _ | exact Below.size (by assumption) | (simp; done) | (simp; omega) | omega) _)) (hb1.mono (by first | exact Nat.le_refl _ | exact Below.size (by assumption) | (simp; done) | (simp; omega) | omega)); have hz1 := hB1.size; have hy1 := hb1.size; (try simp only [World.size_alloc, World.size_setCell, World.size_drew] at hy1)
  have HO1 := Lib.hid ho1
  clear ho1
  have hlt2 : w.heap.size + 1 + 1 < w1.heap.size := by omega
  have hlt1 : w.heap.size + 1 < w1.heap.size := by omega
  have hlt0 : w.heap.size < w1.heap.size := by omega
  have hfz : ∀ j, w1.frozen? ⟨w.heap.size + 1 + 1, j, none⟩ = false := fun j => by
    rw [hf1 _ _ (by simp)]
    simp [go_sem]
  have hfz1 : ∀ j, w1.frozen? ⟨w.heap.size + 1, j, none⟩ = false := fun j => by
    rw [hf1 _ _ (by simp)]
    simp [go_sem]
  go_wp2_with fail
  refine bodyPost_ret (v := bkV m.f m.t m.ch A1 m.ds.length c1 m.sm) ?_ rfl ⟨_, _, rfl, ?_, ?_⟩
  · simp [results, Try.results159, go_sem, *]
  · have h := HO1.out
    simp only [World.size_alloc] at h
    refine own_mono (base := w.heap.size + 1 + 1 + 1) ?_ (by omega)
    repeat (first | (with_reducible refine ownSet ?_ (by omega) _ _) | with_reducible exact h)
  · exact (((((((hB1.setCell (p := ⟨w.heap.size + 1 + 1, 3, none⟩) (by show _ ≤ _; dsimp only; omega) _).setCell (p := ⟨w.heap.size + 1 + 1, 4, none⟩) (by show _ ≤ _; dsimp only; omega) _).setCell (p := ⟨w.heap.size + 1, 0, none⟩) (by show _ ≤ _; dsimp only; omega) _).setCell (p := ⟨w.heap.size + 1, 1, none⟩) (by show _ ≤ _; dsimp only; omega) _).setCell (p := ⟨w.heap.size + 1, 2, none⟩) (by show _ ≤ _; dsimp only; omega) _).setCell (p := ⟨w.heap.size + 1, 3, none⟩) (by show _ ≤ _; dsimp only; omega) _).setCell (p := ⟨w.heap.size + 1, 4, none⟩) (by show _ ≤ _; dsimp only; omega) _)
/-- two backups whose differences lie in different blocks -/
def Bk.far (a b : Bk) : Prop := a.row.ownBlock = none ∨ a.row.ownBlock ≠ b.row.ownBlock
def BOwn (w : World) (base : Nat) (B : Option Addr) (c : Nat) (ys : List Bk) : Prop := w.ownsRow base 86 5 (.slice B ys.length c) ys.length (flat encBk ys) ∧ (∀ y ∈ ys, w.ownsRow base 145 5 y.row y.ds.length (flat encD y.ds)) ∧ ys.Pairwise Bk.far
theorem BOwn.rd {w : World} {base : Nat} {B : Option Addr} {c : Nat} {ys : List Bk} (h : BOwn w base B c ys) : BRd w w.heap.size B ys := ⟨Rd.own h.1, fun y hy => Rd.own (h.2.1 y hy)⟩
theorem BOwn.below {w w1 : World} {base : Nat} {B : Option Addr} {c : Nat} {ys : List Bk} (h : BOwn w base B c ys) (hb : Below w.heap.size w w1) : BOwn w1 base B c ys := ⟨own_below h.1 hb, fun y hy => own_below (h.2.1 y hy) hb, h.2.2⟩
/-- the backups, copied: the same data, in memory of the call's own -/
def ToBs (xs : List Bk) (w : World) (e : Ending) (w' : World) : Prop := ∃ (B : Option Addr) (c : Nat) (ys : List Bk), e = .returned (.slice B xs.length c) ∧ ys.map Bk.data = xs.map Bk.data ∧ BOwn w' w.heap.size B c ys ∧ Below w.heap.size w w'
theorem tbs_len {xs ys : List Bk} (h : ys.map Bk.data = xs.map Bk.data) : ys.length = xs.length := by simpa using congrArg List.length h
theorem bdata_take {xs ys : List Bk} {k : Nat} (hlt : k < xs.length) (h : ys.map Bk.data = (xs.take k).map Bk.data) (y : Bk) (hy : y.data = xs[k].data) : (ys ++ [y]).map Bk.data = (xs.take (k + 1)).map Bk.data := by
  rw [List.take_succ_eq_append_getElem hlt, List.map_append, List.map_append, h]
  simp [hy]
theorem far_snoc {ys : List Bk} {y : Bk} {w w' : World} {b : Nat} (h : ys.Pairwise Bk.far) (ho : ∀ x ∈ ys, w.ownsRow b 145 5 x.row x.ds.length (flat encD x.ds)) (hy : w'.ownsRow w.heap.size 145 5 y.row y.ds.length (flat encD y.ds)) : (ys ++ [y]).Pairwise Bk.far := by
  rw [List.pairwise_append]
  refine ⟨h, List.pairwise_singleton _ _, fun a ha c hc => ?_⟩
  obtain rfl := List.mem_singleton.1 hc
  exact ne_blocks (fun k hk => (ho a ha).lt k hk) (fun k hk => hy.lt k hk) (.inl (Nat.le_refl _))
set_option maxRecDepth 100000 in
set_option maxHeartbeats 1000000 in
theorem toBackupS_any (A : Option Addr) (c : Nat) (xs : List Bk) (w : World) (hx : BRd w w.heap.size A xs) (hl : xs.length ≤ 1048576) (hs : ∀ k ∈ xs, k.ds.length ≤ 1048576) :
    Calls Try.prog 78 #[.slice A xs.length c] w (ToBs xs w) := by
  obtain ⟨i0, hi, hz0, hz1, hz2⟩ := info_parts infoBackup
  have HX := Lib.hid hx
  have HS := Lib.hid hs
  clear hx hs
  have hz2' : i0.bytes * xs.length ≤ 281474976710656 := by rw [hz2]; omega
  have HI := Lib.hid (And.intro hi (And.intro hz0 (And.intro hz1 hz2')))
  clear hi hz0 hz1 hz2 hz2'
  go_enter Try.func78, Try.ntmps78
  go_wp2_with (at_make; refine wpList_make_full _ rfl _ _ _ rfl w.heap.size 86 i0 (.agg #[.string ⟨#[]⟩, .string ⟨#[]⟩, .int .i64 0, .slice none 0 0, .int .i64 0]) 5 Try.underlying83 HI.out.1 HI.out.2.1 HI.out.2.2.1 _ _ _ _ xs.length rfl rfl rfl rfl HI.out.2.2.2 (by simp only [maxLen]; omega) (Nat.le_refl _) ?_; intro w1 hown1 hg1)
  have hZ : (madeCells (Value.cells (.agg #[.string ⟨#[]⟩, .string ⟨#[]⟩, .int .i64 0, .slice none 0 0, .int .i64 0])) (xs.length * 5)).toList.length = xs.length * 5 := by simp [madeCells]
  generalize hgz : (madeCells (Value.cells (.agg #[.string ⟨#[]⟩, .string ⟨#[]⟩, .int .i64 0, .slice none 0 0, .int .i64 0])) (xs.length * 5)).toList = Z at *
  have hown2 : w1.ownsRow w.heap.size 86 5 (.slice (some ⟨w.heap.size, 0, none⟩) xs.length xs.length) xs.length (flat encBk [] ++ Z) := hown1
  have HO := Lib.hid hown2
  have HZ := Lib.hid hZ
  have hb1 : Below w.heap.size w w1 := below_grown none hg1 (Nat.le_refl _) (by simp)
  have hq1 : w.heap.size < w1.heap.size := (hown2.lt _ rfl).2
  clear hown1 hown2 hg1 hgz hZ
  go_wp2
  go_loopw [4] (fun i wr => ∃ (k : Nat) (Z : List Value) (ys : List Bk), k ≤ xs.length ∧ i = .int .i64 k ∧ Z.length = (xs.length - k) * 5 ∧ ys.map Bk.data = (xs.take k).map Bk.data ∧ wr.ownsRow w.heap.size 86 5 (.slice (some ⟨w.heap.size, 0, none⟩) xs.length xs.length) xs.length (flat encBk ys ++ Z) ∧ ((∀ y ∈ ys, wr.ownsRow (w.heap.size + 1) 145 5 y.row y.ds.length (flat encD y.ds)) ∧ ys.Pairwise Bk.far) ∧ w.heap.size < wr.heap.size ∧ Below w.heap.size w wr) (fun i _ => xs.length - (intOf i).toNat)
  case atStart => exact ⟨0, Z, [], Nat.zero_le _, rfl, HZ.out, rfl, HO.out, ⟨by simp, List.Pairwise.nil⟩, hq1, hb1⟩
  case round =>
    obtain ⟨k, Z, ys, hk, rfl, hZ, hd, ho, hn, hq, hb⟩ := hrel
    have HK := Lib.hid (And.intro ho (And.intro hd hn))
    have HZ2 := Lib.hid hZ
    clear ho HO HZ hZ hd hn
    by_cases hlt : k < xs.length
    · obtain ⟨ad, rfl, hbl, c0, c1, c2, c3, c4⟩ := (HX.out.1.below hb).bk hlt
      go_wp2_with fail
      refine (toBackup_any xs[k] _ ((HX.out.2 xs[k] (List.getElem_mem _)).next hb) (HS.out xs[k] (List.getElem_mem _))).mono ?_
      rintro e w2 ⟨A2, n2, rfl, hp2, hb2⟩
      have ho2 := own_below HK.out.1 hb2
      have hb3 := below_after hb hb2
      have hq2 : w.heap.size < w2.heap.size := by have := hb2.size; omega
      have hyl : ys.length = k := by have h := tbs_len (HK.out.2.1); rw [List.length_take] at h; omega
      have hfl : (flat encBk ys ++ Z).length = xs.length * 5 := ho2.1
      have hce0 : ∃ u, w2.cell? ⟨w.heap.size, k * 5, none⟩ = some u := by
        rw [ho2.cellAt (k * 5) (by omega)]
        exact ⟨_, List.getElem?_eq_getElem (by omega)⟩
      obtain ⟨u0, hcu0⟩ := hce0
      have hfr0 := ho2.frozenAt (k * 5)
      have hce1 : ∃ u, w2.cell? ⟨w.heap.size, k * 5 + 1, none⟩ = some u := by
        rw [ho2.cellAt (k * 5 + 1) (by omega)]
        exact ⟨_, List.getElem?_eq_getElem (by omega)⟩
      obtain ⟨u1, hcu1⟩ := hce1
      have hfr1 := ho2.frozenAt (k * 5 + 1)
      have hce2 : ∃ u, w2.cell? ⟨w.heap.size, k * 5 + 1 + 1, none⟩ = some u := by
        rw [ho2.cellAt (k * 5 + 1 + 1) (by omega)]
        exact ⟨_, List.getElem?_eq_getElem (by omega)⟩
      obtain ⟨u2, hcu2⟩ := hce2
      have hfr2 := ho2.frozenAt (k * 5 + 1 + 1)
      have hce3 : ∃ u, w2.cell? ⟨w.heap.size, k * 5 + 1 + 1 + 1, none⟩ = some u := by
        rw [ho2.cellAt (k * 5 + 1 + 1 + 1) (by omega)]
        exact ⟨_, List.getElem?_eq_getElem (by omega)⟩
      obtain ⟨u3, hcu3⟩ := hce3
      have hfr3 := ho2.frozenAt (k * 5 + 1 + 1 + 1)
      have hce4 : ∃ u, w2.cell? ⟨w.heap.size, k * 5 + 1 + 1 + 1 + 1, none⟩ = some u := by
        rw [ho2.cellAt (k * 5 + 1 + 1 + 1 + 1) (by omega)]
        exact ⟨_, List.getElem?_eq_getElem (by omega)⟩
      obtain ⟨u4, hcu4⟩ := hce4
      have hfr4 := ho2.frozenAt (k * 5 + 1 + 1 + 1 + 1)
      have HO2 := Lib.hid ho2
      have HP2 := Lib.hid hp2
      have HF := Lib.hid hfl
      have HN2 : Hid (∀ y ∈ ys, w2.ownsRow (w.heap.size + 1) 145 5 y.row y.ds.length (flat encD y.ds)) := fun y hy => own_below (HK.out.2.2.1 y hy) hb2
      have HPW := Lib.hid (far_snoc (y := ⟨xs[k].f, xs[k].t, xs[k].ch, A2, xs[k].ds, n2, xs[k].sm⟩) HK.out.2.2.2 HK.out.2.2.1 hp2)
      have HD := Lib.hid (And.intro hyl HK.out.2.1)
      clear ho2 hfl c0 c1 c2 c3 c4 hb2 HK hp2 hyl
      go_wp2
      go_roundw
      case rel =>
        have hfit := HF.out
        have hZl := HZ2.out
        have hyl := HD.out.1
        refine ⟨k + 1, Z.drop 5, ys ++ [⟨xs[k].f, xs[k].t, xs[k].ch, A2, xs[k].ds, n2, xs[k].sm⟩], by omega, by go_num, by simp; omega, bdata_take hlt HD.out.2 _ rfl, ?_, ⟨?_, HPW.out⟩, by simp; omega, below_setCells (Nat.le_refl _) [.string xs[k].f, .string xs[k].t, .int .i64 xs[k].ch, .slice A2 xs[k].ds.length n2, .int .i64 xs[k].sm] (k * 5) _ hb3⟩
        · have h := (own_setCells (w := w2) [.string xs[k].f, .string xs[k].t, .int .i64 xs[k].ch, .slice A2 xs[k].ds.length n2, .int .i64 xs[k].sm] (k * 5) _ _ HO2.out (by simp only [List.length_cons, List.length_nil]; omega)).1
          have e := put_elem encBk_len ys ⟨xs[k].f, xs[k].t, xs[k].ch, A2, xs[k].ds, n2, xs[k].sm⟩ Z (by omega)
          rw [hyl] at e
          rw [← e]
          exact h
        · intro y hy
          refine ownSet (ownSet (ownSet (ownSet (ownSet ?_ (by omega) _ _) (by omega) _ _) (by omega) _ _) (by omega) _ _) (by omega) _ _
          rw [List.mem_append] at hy
          rcases hy with hy | hy
          · exact HN2.out y hy
          · simp at hy
            subst hy
            exact own_mono HP2.out (by omega)
      case measure => simp [intOf]; omega
    · go_wp2
      go_ret
      have h := HK.out
      have hZl := HZ2.out
      obtain rfl : Z = [] := List.eq_nil_of_length_eq_zero (by rw [hZl]; omega)
      have hd := HK.out.2.1
      rw [List.take_of_length_le (by omega)] at hd
      rw [List.append_nil] at h
      exact ⟨_, _, ys, rfl, hd, ⟨by rw [tbs_len hd]; exact h.1, fun y hy => own_mono (h.2.2.1 y hy) (by omega), h.2.2.2⟩, hb⟩
end Go.Proofs.Ytlfnpnkpjdmonaa
namespace Go.Proofs.Ytlfnpnkpjdmonaa
open Go.RowKit

/-! ### a backup at whatever place of a row -/
/-- a backup that lies in memory -/
structure BkAo (w : World) (g o : Nat) (f t : ByteArray) (ch : Int) (D : Option Addr) (ds : List Df) (dc : Nat) (sm : Int) : Prop where
  c0 : w.cell? ⟨g, o, none⟩ = some (.string f)
  c1 : w.cell? ⟨g, o + 1, none⟩ = some (.string t)
  c2 : w.cell? ⟨g, o + 1 + 1, none⟩ = some (.int .i64 ch)
  c3 : w.cell? ⟨g, o + 1 + 1 + 1, none⟩ = some (.slice D ds.length dc)
  c4 : w.cell? ⟨g, o + 1 + 1 + 1 + 1, none⟩ = some (.int .i64 sm)
  lt : g < w.heap.size
  rd : Rd w w.heap.size D (flat encD ds)
theorem BkAo.next {w w' : World} {g o : Nat} {f t : ByteArray} {ch : Int} {D : Option Addr} {ds : List Df} {dc : Nat} {sm : Int} (h : BkAo w g o f t ch D ds dc sm) (hb : Below w.heap.size w w') : BkAo w' g o f t ch D ds dc sm :=
  ⟨(hb.cell (p := ⟨g, o, none⟩) h.lt).trans h.c0, (hb.cell (p := ⟨g, o + 1, none⟩) h.lt).trans h.c1, (hb.cell (p := ⟨g, o + 1 + 1, none⟩) h.lt).trans h.c2, (hb.cell (p := ⟨g, o + 1 + 1 + 1, none⟩) h.lt).trans h.c3, (hb.cell (p := ⟨g, o + 1 + 1 + 1 + 1, none⟩) h.lt).trans h.c4, Nat.lt_of_lt_of_le h.lt hb.size, h.rd.next hb⟩
set_option maxRecDepth 100000 in
set_option maxHeartbeats 4000000 in
theorem body_at (g o : Nat) (f t : ByteArray) (ch : Int) (D : Option Addr) (ds : List Df) (dc : Nat) (sm : Int) (w : World) (h : BkAo w g o f t ch D ds dc sm) (hl : ds.length ≤ 120) (hs : ∀ d ∈ ds, DOk d) :
    Calls Try.prog 213 #[.pointer (some ⟨g, o, none⟩)] w fun e w' => e = .returned (.string (bs (bodyB ds))) ∧ Below w.heap.size w w' := by
  have hb0 : Below w.heap.size w (w.alloc (.cells #[.pointer none, .slice none 0 0] 200)) := by repeat (first | exact Below.refl _ _ | assumption | refine Below.drew ?_ | refine below_drewN ?_ _ | refine Below.setCell ?_ (by first | exact Nat.le_refl _ | exact Below.size (by assumption) | (simp; done) | (simp; omega) | omega) _ | refine Below.alloc ?_ (by first | exact Nat.le_refl _ | exact Below.size (by assumption) | (simp; done) | (simp; omega) | omega) _)
  have H0 := Lib.hid (fresh_Bd w)
  have HX := Lib.hid h.rd
  have HS := Lib.hid hs
  have k3 := (hb0.cell (p := ⟨g, o + 1 + 1 + 1, none⟩) h.lt).trans h.c3
  clear h hs
  go_enter Try.func213, Try.ntmps213
  go_wp2_with fail
  clear k3
  go_loopw [12] (fun i wr => ∃ k : Nat, k ≤ ds.length ∧ i = .int .i64 k ∧ Bd w.heap.size w.heap.size (bodyB (ds.take k)) wr ∧ Below w.heap.size w wr) (fun i _ => ds.length - (intOf i).toNat)
  case atStart => exact ⟨0, Nat.zero_le _, rfl, H0.out, hb0⟩
  case round =>
    obtain ⟨k, hk, rfl, hd, hb⟩ := hrel
    have HD := Lib.hid hd
    clear hd H0 hb0
    have hzr : w.heap.size < wr.heap.size := HD.out.lt
    by_cases hlt : k < ds.length
    · obtain ⟨ad, rfl, hla, h0, h1, h2, h3, h4⟩ := (HX.out.below hb).df hlt
      have hok := HS.out _ (List.getElem_mem hlt)
      obtain ⟨d, hde⟩ : ∃ d, d = ds[k] := ⟨_, rfl⟩
      rw [← hde] at h0 h1 h2 h3 h4 hok
      have HDE := Lib.hid hde
      have hk1 : d.key.size ≤ 4194304 := by have : d.key.size ≤ 30 := withinB_le hok.key; omega
      have hk2 : d.old.size ≤ 4194304 := by have := hok.old; omega
      have hk3 : d.new.size ≤ 4194304 := by have := hok.new; omega
      have HDL := Lib.hid (diffF_len hok)
      have HBL : Hid ((bodyB (ds.take k)).length ≤ 26160) := by
        show _ ≤ _
        have h1 := bodyB_len (l := ds.take k) (fun q hq => HS.out q (List.mem_of_mem_take hq))
        rw [List.length_take] at h1
        omega
      have HB := Lib.hid hb
      clear hde hok hb
      obtain ⟨key, old, new, had, has⟩ := d
      have HAP := Lib.hid (bs_append (nb (markD ⟨key, old, new, had, has⟩) 1) (fieldsB [key.toList, old.toList, new.toList]))
      have hsz1 : (wr.alloc (.cells #[.string key, .string old, .string new, .bool had, .bool has] 145)).heap.size = wr.heap.size + 1 := by simp
      have HDU := Lib.hid HD.out.u
      have HBW : Hid (Below wr.heap.size wr (wr.alloc (.cells #[.string key, .string old, .string new, .bool had, .bool has] 145))) := by show Below _ _ _; repeat (first | exact Below.refl _ _ | assumption | refine Below.drew ?_ | refine below_drewN ?_ _ | refine Below.setCell ?_ (by first | exact Nat.le_refl _ | exact Below.size (by assumption) | (simp; done) | (simp; omega) | omega) _ | refine Below.alloc ?_ (by first | exact Nat.le_refl _ | exact Below.size (by assumption) | (simp; done) | (simp; omega) | omega) _)
      have HDU := Lib.hid HD.out.u
      have HBW : Hid (Below wr.heap.size wr (wr.alloc (.cells #[.string key, .string old, .string new, .bool had, .bool has] 145))) := by show Below _ _ _; repeat (first | exact Below.refl _ _ | assumption | refine Below.drew ?_ | refine below_drewN ?_ _ | refine Below.setCell ?_ (by first | exact Nat.le_refl _ | exact Below.size (by assumption) | (simp; done) | (simp; omega) | omega) _ | refine Below.alloc ?_ (by first | exact Nat.le_refl _ | exact Below.size (by assumption) | (simp; done) | (simp; omega) | omega) _)
      have HDU := Lib.hid HD.out.u
      have HBW : Hid (Below wr.heap.size wr (wr.alloc (.cells #[.string key, .string old, .string new, .bool had, .bool has] 145))) := by show Below _ _ _; repeat (first | exact Below.refl _ _ | assumption | refine Below.drew ?_ | refine below_drewN ?_ _ | refine Below.setCell ?_ (by first | exact Nat.le_refl _ | exact Below.size (by assumption) | (simp; done) | (simp; omega) | omega) _ | refine Below.alloc ?_ (by first | exact Nat.le_refl _ | exact Below.size (by assumption) | (simp; done) | (simp; omega) | omega) _)
      have HW : Hid (∀ w' : World, w'.heap[wr.heap.size]? = (wr.alloc (.cells #[.string key, .string old, .string new, .bool had, .bool has] 145)).heap[wr.heap.size]? → wr.heap.size + 1 ≤ w'.heap.size → w'.cell? ⟨wr.heap.size, 0, none⟩ = some (.string key) ∧ w'.cell? ⟨wr.heap.size, 1, none⟩ = some (.string old) ∧ w'.cell? ⟨wr.heap.size, 2, none⟩ = some (.string new) ∧ w'.cell? ⟨wr.heap.size, 3, none⟩ = some (.bool had) ∧ w'.cell? ⟨wr.heap.size, 4, none⟩ = some (.bool has) ∧ wr.heap.size + 1 ≤ w'.heap.size) := fun w' hbw hs => by
        have hn : w'.heap[wr.heap.size]? = some (.cells #[.string key, .string old, .string new, .bool had, .bool has] 145 (0, 0)) := hbw.trans (heap_alloc_new _ _)
        exact ⟨by rw [cell_of_row w' _ 0 _ _ _ hn]; rfl, by rw [cell_of_row w' _ 1 _ _ _ hn]; rfl, by rw [cell_of_row w' _ 2 _ _ _ hn]; rfl, by rw [cell_of_row w' _ 3 _ _ _ hn]; rfl, by rw [cell_of_row w' _ 4 _ _ _ hn]; rfl, hs⟩
      obtain ⟨nF, hzF, hnF⟩ : ∃ n, (bs (fieldsB [key.toList, old.toList, new.toList])).size = n ∧ n ≤ 218 := by
        refine ⟨_, rfl, ?_⟩
        have h1 := HDL.out
        simp only [diffF, List.length_append, nb_len] at h1
        simp only [ByteArray.size, List.size_toArray]
        omega
      have o1 : bits .or .i64 1 2 = 3 := by decide
      have o2 : bits .or .i64 1 0 = 1 := by decide
      have o3 : bits .or .i64 0 2 = 2 := by decide
      have o4 : bits .or .i64 0 0 = 0 := by decide
      cases had <;> cases has
      · have HAP3 : Hid (bs (nb 0 1) ++ bs (fieldsB [key.toList, old.toList, new.toList]) = bs (diffF ⟨key, old, new, false, false⟩)) := HAP.out
        have hz1 : (bs (nb 0 1)).size = 1 := by simp [ByteArray.size, nb_len]
        have hadd : ∀ w : World, (Op.stringOp .add (bs (nb 0 1)) (bs (fieldsB [key.toList, old.toList, new.toList]))).run Try.prog w = .ok (.string (bs (diffF ⟨key, old, new, false, false⟩))) w := fun w => by
          rw [run_string_add_sum w _ _ (by rw [hz1, hzF]; omega), HAP3.out]
        clear HAP
        go_wp2_with fail
        go_region_held3 (fun w' => w'.cell? ⟨wr.heap.size, 0, none⟩ = some (.string key) ∧ w'.cell? ⟨wr.heap.size, 1, none⟩ = some (.string old) ∧ w'.cell? ⟨wr.heap.size, 2, none⟩ = some (.string new) ∧ w'.cell? ⟨wr.heap.size, 3, none⟩ = some (.bool false) ∧ w'.cell? ⟨wr.heap.size, 4, none⟩ = some (.bool false) ∧ wr.heap.size + 1 ≤ w'.heap.size)
          ((first | exact HW.out _ hK4 hS4 | exact HW.out _ (Below.block (B := wr.heap.size + 1) (by repeat (first | exact Below.refl _ _ | assumption | refine Below.drew ?_ | refine below_drewN ?_ _ | refine Below.setCell ?_ (by first | exact Nat.le_refl _ | exact Below.size (by assumption) | (simp; done) | (simp; omega) | omega) _ | refine Below.alloc ?_ (by first | exact Nat.le_refl _ | exact Below.size (by assumption) | (simp; done) | (simp; omega) | omega) _)) _ (Nat.lt_succ_self _)) (by first | omega | (simp; done) | (simp; omega))))
          (first
            | (go_at_call 244; first | (with_reducible refine (bit_any false 1 _).mono ?_; rintro e w2 ⟨rfl, rfl⟩) | (with_reducible refine (bit_any false 2 _).mono ?_; rintro e w2 ⟨rfl, rfl⟩))
            | (go_at_call 198; refine (inBytes_any 0 1 _ (by omega) (by omega)).mono ?_; rintro e w2 ⟨rfl, hb2⟩; have hbI : Below (wr.heap.size + 1) (wr.alloc (.cells #[.string key, .string old, .string new, .bool false, .bool false] 145)) w2 := Below.trans (by repeat (first | exact Below.refl _ _ | assumption | refine Below.drew ?_ | refine below_drewN ?_ _ | refine Below.setCell ?_ (by first | exact Nat.le_refl _ | exact Below.size (by assumption) | (simp; done) | (simp; omega) | omega) _ | refine Below.alloc ?_ (by first | exact Nat.le_refl _ | exact Below.size (by assumption) | (simp; done) | (simp; omega) | omega) _)) (hb2.mono (by first | omega | (simp; done) | (simp; omega))); have hsI := hbI.size; rw [hsz1] at hsI)
            | (go_at_call 126; refine (fields3_any key old new _ _ (by first | exact rd_alloc _ _ _ _ _ (by simp) rfl | exact Rd.next (by exact rd_alloc _ _ _ _ _ (by simp) rfl) hb2) hk1 hk2 hk3).mono ?_; rintro e w3 ⟨rfl, hb3⟩; have hbF : Below (wr.heap.size + 1) (wr.alloc (.cells #[.string key, .string old, .string new, .bool false, .bool false] 145)) w3 := Below.trans (by repeat (first | exact Below.refl _ _ | assumption | refine Below.drew ?_ | refine below_drewN ?_ _ | refine Below.setCell ?_ (by first | exact Nat.le_refl _ | exact Below.size (by assumption) | (simp; done) | (simp; omega) | omega) _ | refine Below.alloc ?_ (by first | exact Nat.le_refl _ | exact Below.size (by assumption) | (simp; done) | (simp; omega) | omega) _)) (hb3.mono (by first | omega | (simp; done) | (simp; omega))); have hsF := hbF.size; rw [hsz1] at hsF)
            | (go_at_call 197; refine (writeStringU_any w.heap.size w.heap.size wr.heap.size _ (diffF ⟨key, old, new, false, false⟩) _ (HDU.out.below (Below.trans HBW.out (hbF.mono (Nat.le_succ _)))) (by have h1 := HBL.out; have h2 := HDL.out; omega) (by omega)).mono ?_; rintro e w4 ⟨rfl, hd4, hb4, hf4⟩; have hK4 := (hf4 wr.heap.size (Nat.le_refl _) (by omega)).trans (hbF.block _ (Nat.lt_succ_self _)); have hS4 : wr.heap.size + 1 ≤ w4.heap.size := Nat.le_trans hsF hb4.size; have HD4 := Lib.hid hd4; have HB4 : Hid (Below w.heap.size w w4) := (below_after HB.out (Below.trans HBW.out (hbF.mono (Nat.le_succ _)))).trans hb4)
            | fail)
        all_goals
          go_wp2_with fail
          go_roundw
          case rel =>
            refine ⟨k + 1, by omega, by go_num, ?_, HB4.out⟩
            have e : bodyB (ds.take (k + 1)) = bodyB (ds.take k) ++ diffF ⟨key, old, new, false, false⟩ := by
              unfold bodyB
              rw [flatMap_take _ _ _ hlt, ← HDE.out]
            rw [e]
            exact HD4.out
          case measure => simp [intOf]; omega
      · have HAP3 : Hid (bs (nb 2 1) ++ bs (fieldsB [key.toList, old.toList, new.toList]) = bs (diffF ⟨key, old, new, false, true⟩)) := HAP.out
        have hz1 : (bs (nb 2 1)).size = 1 := by simp [ByteArray.size, nb_len]
        have hadd : ∀ w : World, (Op.stringOp .add (bs (nb 2 1)) (bs (fieldsB [key.toList, old.toList, new.toList]))).run Try.prog w = .ok (.string (bs (diffF ⟨key, old, new, false, true⟩))) w := fun w => by
          rw [run_string_add_sum w _ _ (by rw [hz1, hzF]; omega), HAP3.out]
        clear HAP
        go_wp2_with fail
        go_region_held3 (fun w' => w'.cell? ⟨wr.heap.size, 0, none⟩ = some (.string key) ∧ w'.cell? ⟨wr.heap.size, 1, none⟩ = some (.string old) ∧ w'.cell? ⟨wr.heap.size, 2, none⟩ = some (.string new) ∧ w'.cell? ⟨wr.heap.size, 3, none⟩ = some (.bool false) ∧ w'.cell? ⟨wr.heap.size, 4, none⟩ = some (.bool true) ∧ wr.heap.size + 1 ≤ w'.heap.size)
          ((first | exact HW.out _ hK4 hS4 | exact HW.out _ (Below.block (B := wr.heap.size + 1) (by repeat (first | exact Below.refl _ _ | assumption | refine Below.drew ?_ | refine below_drewN ?_ _ | refine Below.setCell ?_ (by first | exact Nat.le_refl _ | exact Below.size (by assumption) | (simp; done) | (simp; omega) | omega) _ | refine Below.alloc ?_ (by first | exact Nat.le_refl _ | exact Below.size (by assumption) | (simp; done) | (simp; omega) | omega) _)) _ (Nat.lt_succ_self _)) (by first | omega | (simp; done) | (simp; omega))))
          (first
            | (go_at_call 244; first | (with_reducible refine (bit_any false 1 _).mono ?_; rintro e w2 ⟨rfl, rfl⟩) | (with_reducible refine (bit_any true 2 _).mono ?_; rintro e w2 ⟨rfl, rfl⟩))
            | (go_at_call 198; refine (inBytes_any 2 1 _ (by omega) (by omega)).mono ?_; rintro e w2 ⟨rfl, hb2⟩; have hbI : Below (wr.heap.size + 1) (wr.alloc (.cells #[.string key, .string old, .string new, .bool false, .bool true] 145)) w2 := Below.trans (by repeat (first | exact Below.refl _ _ | assumption | refine Below.drew ?_ | refine below_drewN ?_ _ | refine Below.setCell ?_ (by first | exact Nat.le_refl _ | exact Below.size (by assumption) | (simp; done) | (simp; omega) | omega) _ | refine Below.alloc ?_ (by first | exact Nat.le_refl _ | exact Below.size (by assumption) | (simp; done) | (simp; omega) | omega) _)) (hb2.mono (by first | omega | (simp; done) | (simp; omega))); have hsI := hbI.size; rw [hsz1] at hsI)
            | (go_at_call 126; refine (fields3_any key old new _ _ (by first | exact rd_alloc _ _ _ _ _ (by simp) rfl | exact Rd.next (by exact rd_alloc _ _ _ _ _ (by simp) rfl) hb2) hk1 hk2 hk3).mono ?_; rintro e w3 ⟨rfl, hb3⟩; have hbF : Below (wr.heap.size + 1) (wr.alloc (.cells #[.string key, .string old, .string new, .bool false, .bool true] 145)) w3 := Below.trans (by repeat (first | exact Below.refl _ _ | assumption | refine Below.drew ?_ | refine below_drewN ?_ _ | refine Below.setCell ?_ (by first | exact Nat.le_refl _ | exact Below.size (by assumption) | (simp; done) | (simp; omega) | omega) _ | refine Below.alloc ?_ (by first | exact Nat.le_refl _ | exact Below.size (by assumption) | (simp; done) | (simp; omega) | omega) _)) (hb3.mono (by first | omega | (simp; done) | (simp; omega))); have hsF := hbF.size; rw [hsz1] at hsF)
            | (go_at_call 197; refine (writeStringU_any w.heap.size w.heap.size wr.heap.size _ (diffF ⟨key, old, new, false, true⟩) _ (HDU.out.below (Below.trans HBW.out (hbF.mono (Nat.le_succ _)))) (by have h1 := HBL.out; have h2 := HDL.out; omega) (by omega)).mono ?_; rintro e w4 ⟨rfl, hd4, hb4, hf4⟩; have hK4 := (hf4 wr.heap.size (Nat.le_refl _) (by omega)).trans (hbF.block _ (Nat.lt_succ_self _)); have hS4 : wr.heap.size + 1 ≤ w4.heap.size := Nat.le_trans hsF hb4.size; have HD4 := Lib.hid hd4; have HB4 : Hid (Below w.heap.size w w4) := (below_after HB.out (Below.trans HBW.out (hbF.mono (Nat.le_succ _)))).trans hb4)
            | fail)
        all_goals
          go_wp2_with fail
          go_roundw
          case rel =>
            refine ⟨k + 1, by omega, by go_num, ?_, HB4.out⟩
            have e : bodyB (ds.take (k + 1)) = bodyB (ds.take k) ++ diffF ⟨key, old, new, false, true⟩ := by
              unfold bodyB
              rw [flatMap_take _ _ _ hlt, ← HDE.out]
            rw [e]
            exact HD4.out
          case measure => simp [intOf]; omega
      · have HAP3 : Hid (bs (nb 1 1) ++ bs (fieldsB [key.toList, old.toList, new.toList]) = bs (diffF ⟨key, old, new, true, false⟩)) := HAP.out
        have hz1 : (bs (nb 1 1)).size = 1 := by simp [ByteArray.size, nb_len]
        have hadd : ∀ w : World, (Op.stringOp .add (bs (nb 1 1)) (bs (fieldsB [key.toList, old.toList, new.toList]))).run Try.prog w = .ok (.string (bs (diffF ⟨key, old, new, true, false⟩))) w := fun w => by
          rw [run_string_add_sum w _ _ (by rw [hz1, hzF]; omega), HAP3.out]
        clear HAP
        go_wp2_with fail
        go_region_held3 (fun w' => w'.cell? ⟨wr.heap.size, 0, none⟩ = some (.string key) ∧ w'.cell? ⟨wr.heap.size, 1, none⟩ = some (.string old) ∧ w'.cell? ⟨wr.heap.size, 2, none⟩ = some (.string new) ∧ w'.cell? ⟨wr.heap.size, 3, none⟩ = some (.bool true) ∧ w'.cell? ⟨wr.heap.size, 4, none⟩ = some (.bool false) ∧ wr.heap.size + 1 ≤ w'.heap.size)
          ((first | exact HW.out _ hK4 hS4 | exact HW.out _ (Below.block (B := wr.heap.size + 1) (by repeat (first | exact Below.refl _ _ | assumption | refine Below.drew ?_ | refine below_drewN ?_ _ | refine Below.setCell ?_ (by first | exact Nat.le_refl _ | exact Below.size (by assumption) | (simp; done) | (simp; omega) | omega) _ | refine Below.alloc ?_ (by first | exact Nat.le_refl _ | exact Below.size (by assumption) | (simp; done) | (simp; omega) | omega) _)) _ (Nat.lt_succ_self _)) (by first | omega | (simp; done) | (simp; omega))))
          (first
            | (go_at_call 244; first | (with_reducible refine (bit_any true 1 _).mono ?_; rintro e w2 ⟨rfl, rfl⟩) | (with_reducible refine (bit_any false 2 _).mono ?_; rintro e w2 ⟨rfl, rfl⟩))
            | (go_at_call 198; refine (inBytes_any 1 1 _ (by omega) (by omega)).mono ?_; rintro e w2 ⟨rfl, hb2⟩; have hbI : Below (wr.heap.size + 1) (wr.alloc (.cells #[.string key, .string old, .string new, .bool true, .bool false] 145)) w2 := Below.trans (by repeat (first | exact Below.refl _ _ | assumption | refine Below.drew ?_ | refine below_drewN ?_ _ | refine Below.setCell ?_ (by first | exact Nat.le_refl _ | exact Below.size (by assumption) | (simp; done) | (simp; omega) | omega) _ | refine Below.alloc ?_ (by first | exact Nat.le_refl _ | exact Below.size (by assumption) | (simp; done) | (simp; omega) | omega) _)) (hb2.mono (by first | omega | (simp; done) | (simp; omega))); have hsI := hbI.size; rw [hsz1] at hsI)
            | (go_at_call 126; refine (fields3_any key old new _ _ (by first | exact rd_alloc _ _ _ _ _ (by simp) rfl | exact Rd.next (by exact rd_alloc _ _ _ _ _ (by simp) rfl) hb2) hk1 hk2 hk3).mono ?_; rintro e w3 ⟨rfl, hb3⟩; have hbF : Below (wr.heap.size + 1) (wr.alloc (.cells #[.string key, .string old, .string new, .bool true, .bool false] 145)) w3 := Below.trans (by repeat (first | exact Below.refl _ _ | assumption | refine Below.drew ?_ | refine below_drewN ?_ _ | refine Below.setCell ?_ (by first | exact Nat.le_refl _ | exact Below.size (by assumption) | (simp; done) | (simp; omega) | omega) _ | refine Below.alloc ?_ (by first | exact Nat.le_refl _ | exact Below.size (by assumption) | (simp; done) | (simp; omega) | omega) _)) (hb3.mono (by first | omega | (simp; done) | (simp; omega))); have hsF := hbF.size; rw [hsz1] at hsF)
            | (go_at_call 197; refine (writeStringU_any w.heap.size w.heap.size wr.heap.size _ (diffF ⟨key, old, new, true, false⟩) _ (HDU.out.below (Below.trans HBW.out (hbF.mono (Nat.le_succ _)))) (by have h1 := HBL.out; have h2 := HDL.out; omega) (by omega)).mono ?_; rintro e w4 ⟨rfl, hd4, hb4, hf4⟩; have hK4 := (hf4 wr.heap.size (Nat.le_refl _) (by omega)).trans (hbF.block _ (Nat.lt_succ_self _)); have hS4 : wr.heap.size + 1 ≤ w4.heap.size := Nat.le_trans hsF hb4.size; have HD4 := Lib.hid hd4; have HB4 : Hid (Below w.heap.size w w4) := (below_after HB.out (Below.trans HBW.out (hbF.mono (Nat.le_succ _)))).trans hb4)
            | fail)
        all_goals
          go_wp2_with fail
          go_roundw
          case rel =>
            refine ⟨k + 1, by omega, by go_num, ?_, HB4.out⟩
            have e : bodyB (ds.take (k + 1)) = bodyB (ds.take k) ++ diffF ⟨key, old, new, true, false⟩ := by
              unfold bodyB
              rw [flatMap_take _ _ _ hlt, ← HDE.out]
            rw [e]
            exact HD4.out
          case measure => simp [intOf]; omega
      · have HAP3 : Hid (bs (nb 3 1) ++ bs (fieldsB [key.toList, old.toList, new.toList]) = bs (diffF ⟨key, old, new, true, true⟩)) := HAP.out
        have hz1 : (bs (nb 3 1)).size = 1 := by simp [ByteArray.size, nb_len]
        have hadd : ∀ w : World, (Op.stringOp .add (bs (nb 3 1)) (bs (fieldsB [key.toList, old.toList, new.toList]))).run Try.prog w = .ok (.string (bs (diffF ⟨key, old, new, true, true⟩))) w := fun w => by
          rw [run_string_add_sum w _ _ (by rw [hz1, hzF]; omega), HAP3.out]
        clear HAP
        go_wp2_with fail
        go_region_held3 (fun w' => w'.cell? ⟨wr.heap.size, 0, none⟩ = some (.string key) ∧ w'.cell? ⟨wr.heap.size, 1, none⟩ = some (.string old) ∧ w'.cell? ⟨wr.heap.size, 2, none⟩ = some (.string new) ∧ w'.cell? ⟨wr.heap.size, 3, none⟩ = some (.bool true) ∧ w'.cell? ⟨wr.heap.size, 4, none⟩ = some (.bool true) ∧ wr.heap.size + 1 ≤ w'.heap.size)
          ((first | exact HW.out _ hK4 hS4 | exact HW.out _ (Below.block (B := wr.heap.size + 1) (by repeat (first | exact Below.refl _ _ | assumption | refine Below.drew ?_ | refine below_drewN ?_ _ | refine Below.setCell ?_ (by first | exact Nat.le_refl _ | exact Below.size (by assumption) | (simp; done) | (simp; omega) | omega) _ | refine Below.alloc ?_ (by first | exact Nat.le_refl _ | exact Below.size (by assumption) | (simp; done) | (simp; omega) | omega) _)) _ (Nat.lt_succ_self _)) (by first | omega | (simp; done) | (simp; omega))))
          (first
            | (go_at_call 244; first | (with_reducible refine (bit_any true 1 _).mono ?_; rintro e w2 ⟨rfl, rfl⟩) | (with_reducible refine (bit_any true 2 _).mono ?_; rintro e w2 ⟨rfl, rfl⟩))
            | (go_at_call 198; refine (inBytes_any 3 1 _ (by omega) (by omega)).mono ?_; rintro e w2 ⟨rfl, hb2⟩; have hbI : Below (wr.heap.size + 1) (wr.alloc (.cells #[.string key, .string old, .string new, .bool true, .bool true] 145)) w2 := Below.trans (by repeat (first | exact Below.refl _ _ | assumption | refine Below.drew ?_ | refine below_drewN ?_ _ | refine Below.setCell ?_ (by first | exact Nat.le_refl _ | exact Below.size (by assumption) | (simp; done) | (simp; omega) | omega) _ | refine Below.alloc ?_ (by first | exact Nat.le_refl _ | exact Below.size (by assumption) | (simp; done) | (simp; omega) | omega) _)) (hb2.mono (by first | omega | (simp; done) | (simp; omega))); have hsI := hbI.size; rw [hsz1] at hsI)
            | (go_at_call 126; refine (fields3_any key old new _ _ (by first | exact rd_alloc _ _ _ _ _ (by simp) rfl | exact Rd.next (by exact rd_alloc _ _ _ _ _ (by simp) rfl) hb2) hk1 hk2 hk3).mono ?_; rintro e w3 ⟨rfl, hb3⟩; have hbF : Below (wr.heap.size + 1) (wr.alloc (.cells #[.string key, .string old, .string new, .bool true, .bool true] 145)) w3 := Below.trans (by repeat (first | exact Below.refl _ _ | assumption | refine Below.drew ?_ | refine below_drewN ?_ _ | refine Below.setCell ?_ (by first | exact Nat.le_refl _ | exact Below.size (by assumption) | (simp; done) | (simp; omega) | omega) _ | refine Below.alloc ?_ (by first | exact Nat.le_refl _ | exact Below.size (by assumption) | (simp; done) | (simp; omega) | omega) _)) (hb3.mono (by first | omega | (simp; done) | (simp; omega))); have hsF := hbF.size; rw [hsz1] at hsF)
            | (go_at_call 197; refine (writeStringU_any w.heap.size w.heap.size wr.heap.size _ (diffF ⟨key, old, new, true, true⟩) _ (HDU.out.below (Below.trans HBW.out (hbF.mono (Nat.le_succ _)))) (by have h1 := HBL.out; have h2 := HDL.out; omega) (by omega)).mono ?_; rintro e w4 ⟨rfl, hd4, hb4, hf4⟩; have hK4 := (hf4 wr.heap.size (Nat.le_refl _) (by omega)).trans (hbF.block _ (Nat.lt_succ_self _)); have hS4 : wr.heap.size + 1 ≤ w4.heap.size := Nat.le_trans hsF hb4.size; have HD4 := Lib.hid hd4; have HB4 : Hid (Below w.heap.size w w4) := (below_after HB.out (Below.trans HBW.out (hbF.mono (Nat.le_succ _)))).trans hb4)
            | fail)
        all_goals
          go_wp2_with fail
          go_roundw
          case rel =>
            refine ⟨k + 1, by omega, by go_num, ?_, HB4.out⟩
            have e : bodyB (ds.take (k + 1)) = bodyB (ds.take k) ++ diffF ⟨key, old, new, true, true⟩ := by
              unfold bodyB
              rw [flatMap_take _ _ _ hlt, ← HDE.out]
            rw [e]
            exact HD4.out
          case measure => simp [intOf]; omega
    · have HB := Lib.hid hb
      clear hb
      go_wp2_with fail
      refine (string_any w.heap.size w.heap.size _ _ HD.out (by omega)).mono ?_
      rintro e w2 ⟨rfl, hb2⟩
      have HB2 := Lib.hid (HB.out.trans hb2)
      clear hb2
      go_wp2_with fail
      go_ret
      exact ⟨by rw [List.take_of_length_le (by omega)]; rfl, HB2.out⟩
set_option maxRecDepth 100000 in
set_option maxHeartbeats 4000000 in
theorem link_at (g o : Nat) (f t : ByteArray) (ch : Nat) (D : Option Addr) (ds : List Df) (dc : Nat) (sm : Nat) (w : World) (h : BkAo w g o f t ch D ds dc sm) (hk : BkOk f t ch ds sm) :
    Calls Try.prog 214 #[.pointer (some ⟨g, o, none⟩)] w fun e w' => e = .returned (.int .i64 (linkM f t ch ds sm)) ∧ Below w.heap.size w w' := by
  have HK := Lib.hid hk
  have HH := Lib.hid h
  have hgl := h.lt
  have hcl := hk.cl
  have hsl := hk.sl
  have hf1 : f.size ≤ 4194304 := by have := hk.fl; omega
  have ht1 : t.size ≤ 4194304 := by have := hk.tl; omega
  have HW : Hid (∀ w' : World, Below w.heap.size w w' → w'.cell? ⟨g, o, none⟩ = some (.string f) ∧ w'.cell? ⟨g, o + 1, none⟩ = some (.string t) ∧ w'.cell? ⟨g, o + 1 + 1, none⟩ = some (.int .i64 ch) ∧ w'.cell? ⟨g, o + 1 + 1 + 1 + 1, none⟩ = some (.int .i64 sm) ∧ w.heap.size ≤ w'.heap.size) := fun w' hb => ⟨(h.next hb).c0, (h.next hb).c1, (h.next hb).c2, (h.next hb).c4, hb.size⟩
  have z1 : (bs (nb ch 4)).size = 4 := by simp [ByteArray.size, nb_len]
  have z2 : (bs (nb sm 4)).size = 4 := by simp [ByteArray.size, nb_len]
  obtain ⟨n1, z3, hn1⟩ : ∃ n, (bs (namesF f t)).size = n ∧ n ≤ 131100 := by
    refine ⟨_, rfl, ?_⟩
    have := hk.fl
    have := hk.tl
    simp only [ByteArray.size, List.size_toArray, namesF_len]
    simp only [ByteArray.size] at *
    omega
  obtain ⟨n2, z4, hn2⟩ : ∃ n, (bs (bodyB ds)).size = n ∧ n ≤ 26160 := by
    refine ⟨_, rfl, ?_⟩
    have h1 := bodyB_len hk.dk
    have h2 := hk.dl
    simp only [ByteArray.size, List.size_toArray]
    omega
  have a1 := bs_append (nb ch 4) (namesF f t)
  have a2 := bs_append (linkB1 f t ch) (bodyB ds)
  have a3 := bs_append (linkB2 f t ch ds) (nb sm 4)
  have hll : (linkB f t ch ds sm).length ≤ 4611686018427387904 := by
    have h1 := bodyB_len hk.dk
    have h2 := hk.dl
    have := hk.fl
    have := hk.tl
    simp only [linkB, linkB2, linkB1, List.length_append, nb_len, namesF_len]
    omega
  have z5 : (bs (linkB1 f t ch)).size = 4 + n1 := by rw [linkB1, ← a1, ByteArray.size_append, z1, z3]
  have z6 : (bs (linkB2 f t ch ds)).size = 4 + n1 + n2 := by rw [linkB2, ← a2, ByteArray.size_append, z5, z4]
  have d1 : ∀ w : World, (Op.stringOp .add (bs (nb ch 4)) (bs (namesF f t))).run Try.prog w = .ok (.string (bs (linkB1 f t ch))) w := fun w => by
    rw [run_string_add_sum w _ _ (by rw [z1, z3]; omega), a1]; rfl
  have d2 : ∀ w : World, (Op.stringOp .add (bs (linkB1 f t ch)) (bs (bodyB ds))).run Try.prog w = .ok (.string (bs (linkB2 f t ch ds))) w := fun w => by
    rw [run_string_add_sum w _ _ (by rw [z5, z4]; omega), a2]; rfl
  have d3 : ∀ w : World, (Op.stringOp .add (bs (linkB2 f t ch ds)) (bs (nb sm 4))).run Try.prog w = .ok (.string (bs (linkB f t ch ds sm))) w := fun w => by
    rw [run_string_add_sum w _ _ (by rw [z6, z2]; omega), a3]
    rfl
  clear h hk a1 a2 a3 z5 z6
  go_enter Try.func214, Try.ntmps214
  go_wp2_with fail
  go_region_held3 (fun w' => w'.cell? ⟨g, o, none⟩ = some (.string f) ∧ w'.cell? ⟨g, o + 1, none⟩ = some (.string t) ∧ w'.cell? ⟨g, o + 1 + 1, none⟩ = some (.int .i64 ch) ∧ w'.cell? ⟨g, o + 1 + 1 + 1 + 1, none⟩ = some (.int .i64 sm) ∧ w.heap.size ≤ w'.heap.size)
    ((refine HW.out _ ?_; repeat (first | exact Below.refl _ _ | assumption | refine Below.drew ?_ | refine below_drewN ?_ _ | refine Below.setCell ?_ (by first | exact Nat.le_refl _ | exact Below.size (by assumption) | (simp; done) | (simp; omega) | omega) _ | refine Below.alloc ?_ (by first | exact Nat.le_refl _ | exact Below.size (by assumption) | (simp; done) | (simp; omega) | omega) _)))
    (first
      | (go_at_call 198; first | ((with_reducible refine (inBytes4 ch _ hcl).mono ?_); rintro e w2 ⟨rfl, hb2⟩; have hbI : Below w.heap.size w w2 := Below.trans (by repeat (first | exact Below.refl _ _ | assumption | refine Below.drew ?_ | refine below_drewN ?_ _ | refine Below.setCell ?_ (by first | exact Nat.le_refl _ | exact Below.size (by assumption) | (simp; done) | (simp; omega) | omega) _ | refine Below.alloc ?_ (by first | exact Nat.le_refl _ | exact Below.size (by assumption) | (simp; done) | (simp; omega) | omega) _)) (hb2.mono (by first | omega | (simp; done) | (simp; omega))); have hsI := hbI.size) | ((with_reducible refine (inBytes4 sm _ hsl).mono ?_); rintro e w5 ⟨rfl, hb5⟩; have hbS : Below w.heap.size w w5 := below_after hbB hb5))
      | (go_at_call 126; refine (fields2_any f t _ _ (by first | exact rd_alloc _ _ _ _ _ (by simp) rfl | exact Rd.next (by exact rd_alloc _ _ _ _ _ (by simp) rfl) hb2) hf1 ht1).mono ?_; rw [show fieldsB [f.toList, t.toList] = namesF f t from rfl]; rintro e w3 ⟨rfl, hb3⟩; have hbF : Below w.heap.size w w3 := Below.trans (by repeat (first | exact Below.refl _ _ | assumption | refine Below.drew ?_ | refine below_drewN ?_ _ | refine Below.setCell ?_ (by first | exact Nat.le_refl _ | exact Below.size (by assumption) | (simp; done) | (simp; omega) | omega) _ | refine Below.alloc ?_ (by first | exact Nat.le_refl _ | exact Below.size (by assumption) | (simp; done) | (simp; omega) | omega) _)) (hb3.mono (by first | omega | (simp; done) | (simp; omega))); have hsF := hbF.size)
      | (go_at_call 213; refine (body_at g o f t ch D ds dc sm _ (HH.out.next hbF) HK.out.dl HK.out.dk).mono ?_; rintro e w4 ⟨rfl, hb4⟩; have hbB : Below w.heap.size w w4 := below_after hbF hb4)
      | (go_at_call 227; refine (sumOf_any (linkB f t ch ds sm) _ hll).mono ?_; rintro e w6 ⟨rfl, hb6⟩; have hbE : Below w.heap.size w w6 := below_after hbS hb6)
      | fail)
  all_goals
    go_wp2_with fail
    go_ret
    exact ⟨rfl, hbE⟩
set_option maxRecDepth 100000 in
set_option maxHeartbeats 4000000 in
theorem bkBytes_at (g o : Nat) (f t : ByteArray) (ch : Nat) (D : Option Addr) (ds : List Df) (dc : Nat) (sm : Nat) (w : World) (h : BkAo w g o f t ch D ds dc sm) (hk : BkOk f t ch ds sm) :
    Calls Try.prog 146 #[.pointer (some ⟨g, o, none⟩)] w fun e w' => e = .returned (.string (bs (bytesB f t ch ds sm))) ∧ Below w.heap.size w w' := by
  have HK := Lib.hid hk
  have HH := Lib.hid h
  have hgl := h.lt
  have hcl := hk.cl
  have hsl := hk.sl
  have hdl : ds.length < 4294967296 := by have := hk.dl; omega
  have hkl : linkM f t ch ds sm < 4294967296 := linkM_lt f t ch ds sm
  have hf1 : f.size ≤ 4194304 := by have := hk.fl; omega
  have ht1 : t.size ≤ 4194304 := by have := hk.tl; omega
  have HW : Hid (∀ w' : World, Below w.heap.size w w' → w'.cell? ⟨g, o, none⟩ = some (.string f) ∧ w'.cell? ⟨g, o + 1, none⟩ = some (.string t) ∧ w'.cell? ⟨g, o + 1 + 1, none⟩ = some (.int .i64 ch) ∧ w'.cell? ⟨g, o + 1 + 1 + 1, none⟩ = some (.slice D ds.length dc) ∧ w'.cell? ⟨g, o + 1 + 1 + 1 + 1, none⟩ = some (.int .i64 sm) ∧ w.heap.size ≤ w'.heap.size) := fun w' hb => ⟨(h.next hb).c0, (h.next hb).c1, (h.next hb).c2, (h.next hb).c3, (h.next hb).c4, hb.size⟩
  have hal := bytesB_len hk
  have l1 := hk.fl
  have l2 := hk.tl
  have l3 := bodyB_len hk.dk
  have l4 := hk.dl
  have d1 := add_law1 (b := nb ch 4) (c := bytesB1 ch) rfl (by rw [nb_len]; omega)
  have d2 := add_law (a := bytesB1 ch) (b := namesF f t) (c := bytesB2 f t ch) rfl (by simp only [bytesB1, bkMark, List.length_append, nb_len, namesF_len, List.length_cons, List.length_nil]; omega)
  have d3 := add_law (a := bytesB2 f t ch) (b := nb ds.length 1) (c := bytesB3 f t ch ds.length) rfl (by simp only [bytesB2, bytesB1, bkMark, List.length_append, nb_len, namesF_len, List.length_cons, List.length_nil]; omega)
  have d4 := add_law (a := bytesB3 f t ch ds.length) (b := bodyB ds) (c := bytesB4 f t ch ds) rfl (by simp only [bytesB3, bytesB2, bytesB1, bkMark, List.length_append, nb_len, namesF_len, List.length_cons, List.length_nil]; omega)
  have d5 := add_law (a := bytesB4 f t ch ds) (b := nb sm 4) (c := bytesB5 f t ch ds sm) rfl (by simp only [bytesB4, bytesB3, bytesB2, bytesB1, bkMark, List.length_append, nb_len, namesF_len, List.length_cons, List.length_nil]; omega)
  have d6 := add_law (a := bytesB5 f t ch ds sm) (b := nb (linkM f t ch ds sm) 4) (c := bytesB f t ch ds sm) rfl (by simp only [bytesB5, bytesB4, bytesB3, bytesB2, bytesB1, bkMark, List.length_append, nb_len, namesF_len, List.length_cons, List.length_nil]; omega)
  clear h hk l1 l2 l3 l4 hal
  go_enter Try.func146, Try.ntmps146
  go_wp2_with fail
  go_region_held3 (fun w' => w'.cell? ⟨g, o, none⟩ = some (.string f) ∧ w'.cell? ⟨g, o + 1, none⟩ = some (.string t) ∧ w'.cell? ⟨g, o + 1 + 1, none⟩ = some (.int .i64 ch) ∧ w'.cell? ⟨g, o + 1 + 1 + 1, none⟩ = some (.slice D ds.length dc) ∧ w'.cell? ⟨g, o + 1 + 1 + 1 + 1, none⟩ = some (.int .i64 sm) ∧ w.heap.size ≤ w'.heap.size)
    ((refine HW.out _ ?_; repeat (first | exact Below.refl _ _ | assumption | refine Below.drew ?_ | refine below_drewN ?_ _ | refine Below.setCell ?_ (by first | exact Nat.le_refl _ | exact Below.size (by assumption) | (simp; done) | (simp; omega) | omega) _ | refine Below.alloc ?_ (by first | exact Nat.le_refl _ | exact Below.size (by assumption) | (simp; done) | (simp; omega) | omega) _)))
    (first
      | (go_at_call 198; first
          | ((with_reducible refine (inBytes4 ch _ hcl).mono ?_); rintro e w2 ⟨rfl, hb2⟩; have hbI : Below w.heap.size w w2 := Below.trans (by repeat (first | exact Below.refl _ _ | assumption | refine Below.drew ?_ | refine below_drewN ?_ _ | refine Below.setCell ?_ (by first | exact Nat.le_refl _ | exact Below.size (by assumption) | (simp; done) | (simp; omega) | omega) _ | refine Below.alloc ?_ (by first | exact Nat.le_refl _ | exact Below.size (by assumption) | (simp; done) | (simp; omega) | omega) _)) (hb2.mono (by first | omega | (simp; done) | (simp; omega))); have hsI := hbI.size)
          | ((with_reducible refine (inBytes1 ds.length _ hdl).mono ?_); rintro e w4 ⟨rfl, hb4⟩; have hbN : Below w.heap.size w w4 := below_after hbF hb4)
          | ((with_reducible refine (inBytes4 sm _ hsl).mono ?_); rintro e w6 ⟨rfl, hb6⟩; have hbS : Below w.heap.size w w6 := below_after hbB hb6)
          | ((with_reducible refine (inBytes4 (linkM f t ch ds sm) _ hkl).mono ?_); rintro e w8 ⟨rfl, hb8⟩; have hbE : Below w.heap.size w w8 := below_after hbL hb8))
      | (go_at_call 126; refine (fields2_any f t _ _ (by first | exact rd_alloc _ _ _ _ _ (by simp) rfl | exact Rd.next (by exact rd_alloc _ _ _ _ _ (by simp) rfl) hb2) hf1 ht1).mono ?_; rw [show fieldsB [f.toList, t.toList] = namesF f t from rfl]; rintro e w3 ⟨rfl, hb3⟩; have hbF : Below w.heap.size w w3 := Below.trans (by repeat (first | exact Below.refl _ _ | assumption | refine Below.drew ?_ | refine below_drewN ?_ _ | refine Below.setCell ?_ (by first | exact Nat.le_refl _ | exact Below.size (by assumption) | (simp; done) | (simp; omega) | omega) _ | refine Below.alloc ?_ (by first | exact Nat.le_refl _ | exact Below.size (by assumption) | (simp; done) | (simp; omega) | omega) _)) (hb3.mono (by first | omega | (simp; done) | (simp; omega))); have hsF := hbF.size)
      | (go_at_call 213; refine (body_at g o f t ch D ds dc sm _ (HH.out.next hbN) HK.out.dl HK.out.dk).mono ?_; rintro e w5 ⟨rfl, hb5⟩; have hbB : Below w.heap.size w w5 := below_after hbN hb5)
      | (go_at_call 214; refine (link_at g o f t ch D ds dc sm _ (HH.out.next hbS) HK.out).mono ?_; rintro e w7 ⟨rfl, hb7⟩; have hbL : Below w.heap.size w w7 := below_after hbS hb7)
      | fail)
  all_goals
    go_wp2_with fail
    go_ret
    exact ⟨rfl, hbE⟩
end Go.Proofs.Ytlfnpnkpjdmonaa
namespace Go.Proofs.Ytlfnpnkpjdmonaa
open Go.RowKit

/-! ### lists of backups held against each other -/
theorem bdata_at {l l' : List Bk} (h : l.map Bk.data = l'.map Bk.data) {i : Nat} (hi : i < l.length) (hi' : i < l'.length) : l[i].data = l'[i].data := by
  have e1 : (l.map Bk.data)[i]? = some l[i].data := by simp [hi]
  have e2 : (l'.map Bk.data)[i]? = some l'[i].data := by simp [hi']
  rw [h, e2] at e1
  exact (Option.some.inj e1).symm
theorem bk_eta {k k' : Bk} (h : k.data = k'.data) : k' = ⟨k.f, k.t, k.ch, k'.D, k.ds, k'.dc, k.sm⟩ := by
  cases k; cases k'
  simp only [Bk.data, Prod.mk.injEq] at h
  obtain ⟨rfl, rfl, rfl, rfl, rfl⟩ := h
  rfl
theorem eqBackup_any (k k' : Bk) (h : k.data = k'.data) (w : World) (hx : Rd w w.heap.size k.D (flat encD k.ds)) (hy : Rd w w.heap.size k'.D (flat encD k'.ds)) (hl : k.ds.length ≤ 1048576) :
    Calls Try.prog 83 #[k.v, k'.v] w fun e w' => e = .returned (.bool true) ∧ Below w.heap.size w w' := by
  have e := bk_eta h
  obtain ⟨f, t, ch, D, ds, dc, sm⟩ := k
  obtain ⟨f', t', ch', D', ds', dc', sm'⟩ := k'
  simp only [Bk.mk.injEq, true_and] at e
  obtain ⟨rfl, rfl, rfl, rfl, rfl⟩ := e
  exact eqBackup_eq _ _ _ _ _ _ _ _ _ w hx hy hl
set_option maxRecDepth 100000 in
set_option maxHeartbeats 4000000 in
theorem eqBackupS_eq (A B : Option Addr) (c d n : Nat) (xs ys : List Bk) (hn : n = xs.length) (hn' : n = ys.length) (w : World) (hx : BRd w w.heap.size A xs) (hy : BRd w w.heap.size B ys) (he : xs.map Bk.data = ys.map Bk.data) (hl : n ≤ maxLen) (hs : ∀ k ∈ xs, k.ds.length ≤ 1048576) :
    Calls Try.prog 80 #[.slice A n c, .slice B n d] w fun e w' => e = .returned (.bool true) ∧ Below w.heap.size w w' := by
  unfold maxLen at hl
  have HX := Lib.hid hx
  have HY := Lib.hid hy
  have HE := Lib.hid (And.intro he (And.intro hs (And.intro hn hn')))
  clear hx hy he hs hn hn'
  go_enter Try.func80, Try.ntmps80
  go_wp2
  go_loopw [5] (fun i wr => ∃ k : Nat, k ≤ n ∧ i = .int .i64 k ∧ Below w.heap.size w wr) (fun i _ => n - (intOf i).toNat)
  case atStart => exact ⟨0, Nat.zero_le _, rfl, Below.refl _ _⟩
  case round =>
    obtain ⟨k, hk, rfl, hb⟩ := hrel
    by_cases hlt : k < n
    · have hlx : k < xs.length := by have := HE.out.2.2.1; omega
      have hly : k < ys.length := by have := HE.out.2.2.2; omega
      obtain ⟨ad, rfl, hbl, h0, h1, h2, h3, h4⟩ := (HX.out.1.below hb).bk hlx
      obtain ⟨bd, rfl, hbl', g0, g1, g2, g3, g4⟩ := (HY.out.1.below hb).bk hly
      have hcl := hb.size
      have hcon : ∀ W : World, Rd W W.heap.size xs[k].D (flat encD xs[k].ds) → Rd W W.heap.size ys[k].D (flat encD ys[k].ds) → Calls Try.prog 83 #[xs[k].v, ys[k].v] W fun e w' => e = .returned (.bool true) ∧ Below W.heap.size W w' := fun W g1 g2 => eqBackup_any xs[k] ys[k] (bdata_at HE.out.1 hlx hly) W g1 g2 (HE.out.2.1 _ (List.getElem_mem _))
      have HC := Lib.hid hcon
      clear hcon
      have HN := Lib.hid (And.intro (HX.out.2 xs[k] (List.getElem_mem _)) (HY.out.2 ys[k] (List.getElem_mem _)))
      generalize hgx : xs[k] = x at *
      generalize hgy : ys[k] = y at *
      clear hgx hgy
      go_wp2
      go_region_held3 (fun w' => w'.cell? (ad.add (k * 5)) = some (.string x.f) ∧ w'.cell? ⟨(ad.add (k * 5)).block, (ad.add (k * 5)).off + 1, none⟩ = some (.string x.t) ∧ w'.cell? ⟨(ad.add (k * 5)).block, (ad.add (k * 5)).off + 1 + 1, none⟩ = some (.int .i64 x.ch) ∧ w'.cell? ⟨(ad.add (k * 5)).block, (ad.add (k * 5)).off + 1 + 1 + 1, none⟩ = some (.slice x.D x.ds.length x.dc) ∧ w'.cell? ⟨(ad.add (k * 5)).block, (ad.add (k * 5)).off + 1 + 1 + 1 + 1, none⟩ = some (.int .i64 x.sm) ∧ w'.cell? (bd.add (k * 5)) = some (.string y.f) ∧ w'.cell? ⟨(bd.add (k * 5)).block, (bd.add (k * 5)).off + 1, none⟩ = some (.string y.t) ∧ w'.cell? ⟨(bd.add (k * 5)).block, (bd.add (k * 5)).off + 1 + 1, none⟩ = some (.int .i64 y.ch) ∧ w'.cell? ⟨(bd.add (k * 5)).block, (bd.add (k * 5)).off + 1 + 1 + 1, none⟩ = some (.slice y.D y.ds.length y.dc) ∧ w'.cell? ⟨(bd.add (k * 5)).block, (bd.add (k * 5)).off + 1 + 1 + 1 + 1, none⟩ = some (.int .i64 y.sm))
        (refine ⟨?_, ?_, ?_, ?_, ?_, ?_, ?_, ?_, ?_, ?_⟩ <;> first | assumption | (exact (hb2.cell (by simp only [add_block, World.size_drew]; omega)).trans (by assumption)))
        (first | (go_at_call 83; refine (HC.out _ ((HN.out.1.next hb).next (below_after (Below.refl _ _) ((Below.refl _ _).drew))) ((HN.out.2.next hb).next (below_after (Below.refl _ _) ((Below.refl _ _).drew)))).mono ?_; rintro e w2 ⟨rfl, hb2⟩))
      all_goals
        have hb3 := below_after hb.drew hb2
        clear hb2
        go_wp2_with fail
        go_roundw
        case rel => exact ⟨k + 1, by omega, by go_num, hb3⟩
        case measure => simp [intOf]; omega
    · go_wp2
      go_ret
      exact ⟨rfl, hb⟩

/-! ### what is kept outside a region -/
structure But (lo hi : Nat) (w w' : World) : Prop where
  os : w'.os = w.os
  tape : w'.tape = w.tape
  output : w'.output = w.output
  size : w.heap.size ≤ w'.heap.size
  block : ∀ k, k < w.heap.size → k < lo ∨ hi ≤ k → w'.heap[k]? = w.heap[k]?
theorem But.refl (lo hi : Nat) (w : World) : But lo hi w w := ⟨rfl, rfl, rfl, Nat.le_refl _, fun _ _ _ => rfl⟩
theorem But.below {lo hi : Nat} {w w1 w2 : World} (h : But lo hi w w1) (hb : Below w1.heap.size w1 w2) : But lo hi w w2 :=
  ⟨hb.os.trans h.os, hb.tape.trans h.tape, hb.output.trans h.output, Nat.le_trans h.size hb.size, fun k hk ho => (hb.block k (Nat.lt_of_lt_of_le hk h.size)).trans (h.block k hk ho)⟩
theorem But.grown {lo hi : Nat} {w w1 w2 : World} {row : Option Nat} (h : But lo hi w w1) (hg : w1.grownBy w2 row) (hr : ∀ k, row = some k → lo ≤ k ∧ k < hi) : But lo hi w w2 :=
  ⟨hg.os.trans h.os, hg.tape.trans h.tape, hg.output.trans h.output, Nat.le_trans h.size hg.size, fun k hk ho => (hg.block k (Nat.lt_of_lt_of_le hk h.size) (fun e => by have := hr k e.symm; omega)).trans (h.block k hk ho)⟩
theorem But.after {lo hi : Nat} {w0 w w1 : World} (h : But lo hi w w1) (hb : Below w0.heap.size w0 w) (hw : w0.heap.size ≤ lo) : Below w0.heap.size w0 w1 :=
  ⟨h.os.trans hb.os, h.tape.trans hb.tape, h.output.trans hb.output, Nat.le_trans hb.size h.size, fun k hk => (h.block k (Nat.lt_of_lt_of_le hk hb.size) (.inl (Nat.lt_of_lt_of_le hk hw))).trans (hb.block k hk)⟩
theorem own_but {lo hi : Nat} {w w1 : World} {base e size n : Nat} {v : Value} {xs : List Value} (h : w.ownsRow base e size v n xs) (hb : But lo hi w w1) (hv : ∀ k, v.ownBlock = some k → k < lo ∨ hi ≤ k) : w1.ownsRow base e size v n xs := by
  refine ⟨h.1, h.2.imp id ?_⟩
  rintro ⟨g, cap, cur, rfl, hg, hh, hr⟩
  exact ⟨g, cap, cur, rfl, hg, (hb.block g (Array.getElem?_eq_some_iff.1 hh).1 (hv g rfl)).trans hh, hr⟩

/-! ### the law's marks in a list of backups: only that the region alone is written -/
theorem far_at {ys : List Bk} (h : ys.Pairwise Bk.far) {i j : Nat} (hi : i < ys.length) (hj : j < ys.length) (hij : i < j) : Bk.far ys[i] ys[j] := List.pairwise_iff_getElem.1 h i j hi hj hij
theorem far_symm {a b : Bk} (h : Bk.far a b) : b.row.ownBlock = none ∨ b.row.ownBlock ≠ a.row.ownBlock := by
  rcases h with h | h
  · cases hb : b.row.ownBlock with
    | none => exact .inl rfl
    | some k => exact .inr (by rw [h]; simp)
  · exact .inr h.symm
theorem own_heap {w : World} {base e size n g cap : Nat} {xs : List Value} (h : w.ownsRow base e size (.slice (some ⟨g, 0, none⟩) n cap) n xs) : ∃ cur, w.heap[g]? = some (.cells cur e (0, 0)) := by
  rcases h.2 with ⟨h1, _⟩ | ⟨g', cap', cur, h1, _, hh, _⟩
  · cases h1
  · cases h1; exact ⟨cur, hh⟩
/-- what the round j of the marks leaves: the later rows are as they were -/
structure MRel (ys : List Bk) (base g cap hi j : Nat) (w wr : World) (cs : List Value) : Prop where
  own : wr.ownsRow base 86 5 (.slice (some ⟨g, 0, none⟩) ys.length cap) ys.length cs
  cell : ∀ i, j ≤ i → (h : i < ys.length) → cs[i * 5 + 3]? = some ys[i].row
  rows : ∀ i, j ≤ i → (h : i < ys.length) → wr.ownsRow base 145 5 ys[i].row ys[i].ds.length (flat encD ys[i].ds)
  but : But base hi w wr
theorem MRel.below {ys : List Bk} {base g cap hi j : Nat} {w wr w' : World} {cs : List Value} (h : MRel ys base g cap hi j w wr cs) (hb : Below wr.heap.size wr w') : MRel ys base g cap hi j w w' cs :=
  ⟨own_below h.own hb, h.cell, fun i hj hi => own_below (h.rows i hj hi) hb, h.but.below hb⟩
theorem MRel.set {ys : List Bk} {base g cap hi j : Nat} {w wr : World} {cs : List Value} (h : MRel ys base g cap hi j w wr cs) (hg : base ≤ g ∧ g < hi) (o : Nat) (u : Value) (ho : ∀ i, j ≤ i → o ≠ i * 5 + 3) : MRel ys base g cap hi j w (wr.setCell ⟨g, o, none⟩ u) (cs.set o u) := by
  have h1 := h.own.stored o u
  refine ⟨h1.1, fun i hi hl => ?_, fun i hi hl => ?_, h.but.grown h1.2 (fun k hk => by cases hk; exact hg)⟩
  · rw [List.getElem?_set_ne (ho i hi)]; exact h.cell i hi hl
  · obtain ⟨cur, hh⟩ := own_heap h.own
    exact (h.rows i hi hl).kept h1.2 (.inr (fun e => own_ne_blk (h.rows i hi hl) hh (by decide) (e.trans rfl)))
/-- all the rows lie below hi -/
def BUp (hi : Nat) (B : Option Addr) (c : Nat) (ys : List Bk) : Prop := (∀ k, (Value.slice B ys.length c).ownBlock = some k → k < hi) ∧ ∀ y ∈ ys, ∀ k, y.row.ownBlock = some k → k < hi
theorem BOwn.up {w : World} {base : Nat} {B : Option Addr} {c : Nat} {ys : List Bk} (h : BOwn w base B c ys) : BUp w.heap.size B c ys := ⟨fun k hk => (h.1.lt k hk).2, fun y hy k hk => ((h.2.1 y hy).lt k hk).2⟩
theorem MRel.mark {ys : List Bk} {base g cap hi j : Nat} {w wr w3 : World} {cs : List Value} (h : MRel ys base g cap hi j w wr cs) (hlt : j < ys.length) (hp : ys.Pairwise Bk.far) (hb : ∀ b, ys[j].row.ownBlock = some b → base ≤ b ∧ b < hi) (hg : wr.grownBy w3 ys[j].row.ownBlock) : MRel ys base g cap hi (j + 1) w w3 cs := by
  obtain ⟨cur, hh⟩ := own_heap h.own
  have hne := own_ne_blk (h.rows j (Nat.le_refl _) hlt) hh (by decide)
  exact ⟨h.own.kept hg (.inr fun e => hne (e.symm.trans rfl)), fun i hi hl => h.cell i (by omega) hl, fun i hi hl => (h.rows i (by omega) hl).kept hg (far_symm (far_at hp hlt hl (by omega))), h.but.grown hg hb⟩
set_option maxRecDepth 100000 in
set_option maxHeartbeats 4000000 in
theorem markBackupS_any (base hi : Nat) (B : Option Addr) (c : Nat) (ys : List Bk) (k : Int) (w : World) (hv : BOwn w base B c ys) (hu : BUp hi B c ys) (hl : ys.length ≤ 1048576) (hs : ∀ y ∈ ys, y.ds.length ≤ 1048576) (h0 : 0 ≤ k) (h1 : k ≤ 1048576) :
    Calls Try.prog 81 #[.slice B ys.length c, .int .i64 k] w fun e w' => ∃ r : Int, e = .returned (.int .i64 r) ∧ 0 ≤ r ∧ But base hi w w' := by
  rcases hv.1.2 with ⟨hn, hz⟩ | ⟨g, cap, cur, hn, hbase, hg, hc⟩
  · injection hn with hn1 hn2 hn3
    subst hn1 hn3
    rw [hz]
    clear hz hn2 hs hv hl hu
    go_enter Try.func81, Try.ntmps81
    go_wp2
    go_loopw [1, 5] (fun l i wr => i = .int .i64 0 ∧ l = .int .i64 k ∧ wr = w) (fun _ i _ => 0)
    case atStart => exact ⟨rfl, rfl, rfl⟩
    case round =>
      obtain ⟨rfl, rfl, rfl⟩ := hrel
      go_wp2
      go_ret
      exact ⟨k, rfl, h0, But.refl _ _ _⟩
  · injection hn with hn1 hn2 hn3
    subst hn1 hn3
    have hgl : g < hi := hu.1 g rfl
    have HG : Hid (base ≤ g ∧ g < hi) := ⟨hbase, hgl⟩
    have HR0 : Hid (MRel ys base g c hi 0 w w (flat encBk ys)) := ⟨hv.1, fun i _ h => (bk_at h).2.2.2.1, fun i _ h => hv.2.1 _ (List.getElem_mem h), But.refl _ _ _⟩
    have HF := Lib.hid hv.2.2
    have HS := Lib.hid hs
    have HLT : Hid (∀ i (h : i < ys.length), ∀ b, ys[i].row.ownBlock = some b → base ≤ b ∧ b < hi) := fun i h b hb => ⟨((hv.2.1 _ (List.getElem_mem h)).lt b hb).1, hu.2 _ (List.getElem_mem h) b hb⟩
    clear hv hg hc hn2 hbase hgl hs hu
    go_enter Try.func81, Try.ntmps81
    go_wp2
    go_loopw [1, 5] (fun l i wr => ∃ (j : Nat) (r : Int) (cs : List Value), j ≤ ys.length ∧ i = .int .i64 j ∧ l = .int .i64 r ∧ 0 ≤ r ∧ r ≤ 1048576 + 6000000 * j ∧ MRel ys base g c hi j w wr cs) (fun _ i _ => ys.length - (intOf i).toNat)
    case atStart => exact ⟨0, k, flat encBk ys, Nat.zero_le _, rfl, rfl, h0, by omega, HR0.out⟩
    case round =>
      obtain ⟨j, r, cs, hj, rfl, rfl, hr0, hr1, hm⟩ := hrel
      by_cases hlt : j < ys.length
      · have HM := Lib.hid hm
        have hle : cs.length = ys.length * 5 := hm.own.1
        clear hm HR0
        go_wp2_with fail
        refine (markText_any _ _ (by omega)).mono ?_
        rintro e w1 ⟨rfl, hb1⟩
        have hm1 := HM.out.below hb1
        have ho1 := hm1.own
        have hcu0 : ∃ u, w1.cell? ⟨g, j * 5, none⟩ = some u := by
          rw [ho1.cellAt (j * 5) (by omega)]
          exact ⟨_, List.getElem?_eq_getElem (by omega)⟩
        obtain ⟨u0, c0⟩ := hcu0
        have f0 : w1.frozen? ⟨g, j * 5, none⟩ = false := ho1.frozenAt (j * 5)
        have HM1 := Lib.hid (hm1.set HG.out (j * 5) (.string (mkT r)) (by intro i _; omega))
        clear hb1 hm1 ho1 HM
        go_wp2_with fail
        refine (markText_any _ _ (by omega)).mono ?_
        rintro e w2 ⟨rfl, hb2⟩
        have hm2 := HM1.out.below hb2
        have ho2 := hm2.own
        have hle : (cs.set (j * 5) (.string (mkT r))).length = ys.length * 5 := ho2.1
        have hcu1 : ∃ u, w2.cell? ⟨g, j * 5 + 1, none⟩ = some u := by
          rw [ho2.cellAt (j * 5 + 1) (by omega)]
          exact ⟨_, List.getElem?_eq_getElem (by omega)⟩
        obtain ⟨u1, c1⟩ := hcu1
        have f1 : w2.frozen? ⟨g, j * 5 + 1, none⟩ = false := ho2.frozenAt (j * 5 + 1)
        have hcu2 : ∃ u, w2.cell? ⟨g, j * 5 + 1 + 1, none⟩ = some u := by
          rw [ho2.cellAt (j * 5 + 1 + 1) (by omega)]
          exact ⟨_, List.getElem?_eq_getElem (by omega)⟩
        obtain ⟨u2, c2⟩ := hcu2
        have f2 : w2.frozen? ⟨g, j * 5 + 1 + 1, none⟩ = false := ho2.frozenAt (j * 5 + 1 + 1)
        have hm2' := hm2.set HG.out (j * 5 + 1) (.string (mkT (r + 1))) (by intro i _; omega)
        have HM2 := Lib.hid (hm2'.set HG.out (j * 5 + 1 + 1) (.int .i64 (r + 1 + 1)) (by intro i _; omega))
        have hrow := (HM2.out.own.cellAt (j * 5 + 3) (by have := HM2.out.own.1; omega)).trans (HM2.out.cell j (Nat.le_refl _) hlt)
        have HDL := Lib.hid (HS.out _ (List.getElem_mem hlt))
        have HLJ := Lib.hid (HLT.out j hlt)
        have HRJ := Lib.hid (HM2.out.rows j (Nat.le_refl _) hlt)
        have HMK : Hid (∀ W3 : World, _ → MRel ys base g c hi (j + 1) w W3 _) := fun W3 hg3 => HM2.out.mark (w3 := W3) hlt HF.out (HLT.out j hlt) hg3
        generalize hgy : ys[j] = y at *
        clear hgy hb2 hm2 hm2' ho2 HM1 HM2
        have hdl : y.ds.length ≤ 1048576 := HDL.out
        go_wp2_with fail
        refine (markDiffS_any base y.row y.ds.length _ _ _ HRJ.out (by omega) (by omega) (by omega)).mono ?_
        rintro e w3 ⟨rfl, ⟨cs3, _, _⟩, hg3⟩
        have HM3 := Lib.hid (HMK.out w3 hg3)
        have ho3 := HM3.out.own
        have hle3 : _ = ys.length * 5 := ho3.1
        have hcu4 : ∃ u, w3.cell? ⟨g, j * 5 + 1 + 1 + 1 + 1, none⟩ = some u := by
          rw [ho3.cellAt (j * 5 + 1 + 1 + 1 + 1) (by omega)]
          exact ⟨_, List.getElem?_eq_getElem (by omega)⟩
        obtain ⟨u4, c4⟩ := hcu4
        have f4 : w3.frozen? ⟨g, j * 5 + 1 + 1 + 1 + 1, none⟩ = false := ho3.frozenAt (j * 5 + 1 + 1 + 1 + 1)
        clear hg3 ho3 hle3 HMK hrow
        go_wp2_with fail
        go_roundw
        case rel => exact ⟨j + 1, r + 1 + 1 + 1 + 5 * y.ds.length + 1, _, by omega, by go_num, rfl, by omega, by omega, HM3.out.set HG.out (j * 5 + 4) (.int .i64 (r + 1 + 1 + 1 + 5 * y.ds.length)) (by intro i _; omega)⟩
        case measure => simp [intOf]; omega
      · go_wp2
        go_ret
        exact ⟨r, rfl, hr0, hm.but⟩
end Go.Proofs.Ytlfnpnkpjdmonaa
namespace Go.Proofs.Ytlfnpnkpjdmonaa
open Go.RowKit

/-! ### the reference: a backup's bytes -/
section
variable {P : Program} {w : World} {ops : Array Oper} {rest : List Oper} {o : Oper} {a : Act} {Q : Exit → Act → World → Prop}
/-- appended to a row that is full (a constant's bytes): a new row -/
theorem push_full {t e : TypeId} {size bytes : Nat} (el : ElT P t e size bytes) (hgd : o.guard = none) (s x : Operand) (ho : o.op = .call { callee := .builtin .append, args := #[s, x], argTypes := #[t, t] })
    (base g n : Nat) (xs : List Value) (hs : a.eval s = .slice (some ⟨g, 0, none⟩) n n) (hcell : ∀ j u, xs[j]? = some u → w.cell? ((⟨g, 0, none⟩ : Addr).add j) = some u) (hxl : xs.length = n * size)
    (m c : Nat) (ad : Addr) (news : List Value) (hx : a.eval x = .slice (some ad) m c) (hnews : ∀ j u, news[j]? = some u → w.cell? (ad.add j) = some u) (hl : news.length = m * size) (h1 : ∀ u ∈ news, u.oneCell' = true)
    (h63 : n + m ≤ maxLen) (hbytes : (n + m) * bytes ≤ 140737488355328) (hbase : base ≤ w.heap.size) (hm : 0 < m)
    (h : ∀ v' w', w'.ownsRow base e size v' (n + m) (xs ++ news) → Below w.heap.size w w' → wpList P ops Q rest (a.put o.dst v') w') : wpList P ops Q (o :: rest) a w := by
  obtain ⟨i, z, ht, hi, hz, hsize, hby, hzs, hsz⟩ := el
  subst hsize
  subst hby
  have hlen : (xs ++ news).length = (n + m) * i.size := by rw [List.length_append, hxl, hl, Nat.add_mul]
  have h2 := nextslicecap_le (need := n + m) (old := n) (by omega)
  have hfit : Builtin.nextslicecap (n + m) n * i.bytes ≤ 281474976710656 := Nat.le_trans (Nat.mul_le_mul_right _ h2) (by rw [Nat.mul_assoc]; omega)
  have hr := run_append_grow_src (P := P) (w := w) t t o.type e i z ht hi hz (some ⟨g, 0, none⟩) n n xs (run_firstCells_some (P := P) (w := w.drew) i.size n ⟨g, 0, none⟩ n n xs hxl hcell) (.slice (some ad) m c) m news (Src.ofSlice w ht ad m c news hl hnews h1) (by omega) (by simp only [maxLen] at h63; omega) hfit
  have hge := grownCap_ge w (n + m) n e
  have hcm : grownCap w (n + m) n e ≤ maxLen := grownCap_le_maxLen w (n + m) n e h63
  refine wpList_plain hgd fun _ hK => ?_
  unfold Oper.wp execOp
  simp only [ho, resolve, invoke, builtin, Sem.run_bind, Sem.run_pure, Result.andThen_ok, List.map_toArray, List.map_cons, List.map_nil, hs, hx, hr]
  refine hK _ _ (h _ _ ⟨hlen, .inr ⟨w.heap.size, _, _, rfl, hbase, heap_alloc_new w.drew _, hge, hcm, ?_, ?_⟩⟩ ⟨rfl, rfl, rfl, by simp, fun k hk => Below.heap_alloc w.drew _ k hk⟩)
  · simp only [Array.size_append, List.size_toArray, size_zeroCells, hzs, hlen, ← Nat.add_mul]
    congr 1
    omega
  · simp only [Array.toList_append]
    rw [← hlen]
    exact List.take_left
end
theorem nb1_bv (n : Nat) : (nb n 1).map bv = [.int .u8 ((n : Int) % 256)] := by
  simp only [nb, List.nil_append, List.map_cons, List.map_nil, bv]
  congr 2
  have : (UInt8.ofNat (n % 256)).toNat = n % 256 := by simp
  rw [this]
  omega
set_option maxRecDepth 100000 in
set_option maxHeartbeats 4000000 in
theorem l06Bytes_any (f t : ByteArray) (ch : Nat) (D : Option Addr) (ds : List Df) (dc : Nat) (sm : Nat) (w : World) (hx : Rd w w.heap.size D (flat encD ds)) (hk : BkOk f t ch ds sm) :
    Calls Try.prog 148 #[bkV f t ch D ds.length dc sm] w (BytesMade (bytesB f t ch ds sm) w) := by
  have HX := Lib.hid hx
  have HK := Lib.hid hk
  have hcl := hk.cl
  have hsl := hk.sl
  have hkl : linkM f t ch ds sm < 4294967296 := linkM_lt f t ch ds sm
  have hf1 : f.size ≤ 4194304 := by have := hk.fl; omega
  have ht1 : t.size ≤ 4194304 := by have := hk.tl; omega
  have hnl : (namesF f t).length ≤ 131100 := by have := hk.fl; have := hk.tl; rw [namesF_len]; omega
  have HNL := Lib.hid hnl
  have hdl := hk.dl
  have HRW : Hid (∀ w' : World, Below (w.heap.size + 1) (w.alloc (.cells #[.string f, .string t, .int .i64 ch, .slice D ds.length dc, .int .i64 sm] 86)) w' → w'.cell? ⟨w.heap.size, 0, none⟩ = some (.string f) ∧ w'.cell? ⟨w.heap.size, 1, none⟩ = some (.string t) ∧ w'.cell? ⟨w.heap.size, 2, none⟩ = some (.int .i64 ch) ∧ w'.cell? ⟨w.heap.size, 3, none⟩ = some (.slice D ds.length dc) ∧ w'.cell? ⟨w.heap.size, 4, none⟩ = some (.int .i64 sm) ∧ w.heap.size + 1 ≤ w'.heap.size) := fun w' hb => by
    have hn : w'.heap[w.heap.size]? = some (.cells #[.string f, .string t, .int .i64 ch, .slice D ds.length dc, .int .i64 sm] 86 (0, 0)) := box_row hb
    have hs := hb.size
    rw [World.size_alloc] at hs
    exact ⟨by rw [cell_of_row w' _ 0 _ _ _ hn]; rfl, by rw [cell_of_row w' _ 1 _ _ _ hn]; rfl, by rw [cell_of_row w' _ 2 _ _ _ hn]; rfl, by rw [cell_of_row w' _ 3 _ _ _ hn]; rfl, by rw [cell_of_row w' _ 4 _ _ _ hn]; rfl, hs⟩
  have hsz1 : (w.alloc (.cells #[.string f, .string t, .int .i64 ch, .slice D ds.length dc, .int .i64 sm] 86)).heap.size = w.heap.size + 1 := by simp
  have hb0 : Below w.heap.size w (w.alloc (.cells #[.string f, .string t, .int .i64 ch, .slice D ds.length dc, .int .i64 sm] 86)) := by repeat (first | exact Below.refl _ _ | assumption | refine Below.drew ?_ | refine below_drewN ?_ _ | refine Below.setCell ?_ (by first | exact Nat.le_refl _ | exact Below.size (by assumption) | (simp; done) | (simp; omega) | omega) _ | refine Below.alloc ?_ (by first | exact Nat.le_refl _ | exact Below.size (by assumption) | (simp; done) | (simp; omega) | omega) _)
  have HB0 := Lib.hid hb0
  have hcv : (convert 39 39 (.slice (some ⟨w.heap.size + 1, 0, none⟩) 6 6)).run Try.prog ((w.alloc (.cells #[.string f, .string t, .int .i64 ch, .slice D ds.length dc, .int .i64 sm] 86)).alloc (.cells #[.int .u8 98, .int .u8 97, .int .u8 99, .int .u8 107, .int .u8 117, .int .u8 112] 5)) = .ok (.slice (some ⟨w.heap.size + 1, 0, none⟩) 6 6) ((w.alloc (.cells #[.string f, .string t, .int .i64 ch, .slice D ds.length dc, .int .i64 sm] 86)).alloc (.cells #[.int .u8 98, .int .u8 97, .int .u8 99, .int .u8 107, .int .u8 117, .int .u8 112] 5 (6, 7))) := by
    have h := Go.Lib.run_convert_bytes_const (P := Try.prog) (w.alloc (.cells #[.string f, .string t, .int .i64 ch, .slice D ds.length dc, .int .i64 sm] 86)) 39 5 #[.int .u8 98, .int .u8 97, .int .u8 99, .int .u8 107, .int .u8 117, .int .u8 112] 6 6 Try.underlying39 Try.underlying5
    rw [hsz1] at h
    exact h
  have HMB : Hid (Below (w.heap.size + 1) (w.alloc (.cells #[.string f, .string t, .int .i64 ch, .slice D ds.length dc, .int .i64 sm] 86)) ((w.alloc (.cells #[.string f, .string t, .int .i64 ch, .slice D ds.length dc, .int .i64 sm] 86)).alloc (.cells #[.int .u8 98, .int .u8 97, .int .u8 99, .int .u8 107, .int .u8 117, .int .u8 112] 5 (6, 7)))) := by
    show Below _ _ _
    exact (Below.refl _ _).alloc (Nat.le_of_eq hsz1.symm) _
  have HM0 : Hid (((w.alloc (.cells #[.string f, .string t, .int .i64 ch, .slice D ds.length dc, .int .i64 sm] 86)).alloc (.cells #[.int .u8 98, .int .u8 97, .int .u8 99, .int .u8 107, .int .u8 117, .int .u8 112] 5 (6, 7))).heap[w.heap.size + 1]? = some (.cells #[.int .u8 98, .int .u8 97, .int .u8 99, .int .u8 107, .int .u8 117, .int .u8 112] 5 (6, 7))) := by
    have h := heap_alloc_new (w.alloc (.cells #[.string f, .string t, .int .i64 ch, .slice D ds.length dc, .int .i64 sm] 86)) (.cells #[.int .u8 98, .int .u8 97, .int .u8 99, .int .u8 107, .int .u8 117, .int .u8 112] 5 (6, 7))
    rw [hsz1] at h
    exact h
  have HN0 := Lib.hid (And.intro hcl (And.intro hsl (And.intro hkl (And.intro hf1 (And.intro ht1 (And.intro hdl hsz1))))))
  clear hx hk hb0 hnl hcl hsl hkl hf1 ht1 hdl
  go_enter Try.func148, Try.ntmps148
  go_wp2_with fail
  refine (l01Number4 ch _ HN0.out.1).mono ?_
  rintro e w10 ⟨v10, rfl, ho10, hb10⟩
  obtain ⟨A10, c10, rfl, _⟩ := own_form ho10
  have HO10 := Lib.hid ho10
  have HM1 : Hid (∀ j u, (bkMark.map bv)[j]? = some u → w10.cell? ((⟨w.heap.size + 1, 0, none⟩ : Addr).add j) = some u) := fun j u hj => by
    have hh := (hb10.block (w.heap.size + 1) (by simp)).trans HM0.out
    rw [show (⟨w.heap.size + 1, 0, none⟩ : Addr).add j = ⟨w.heap.size + 1, j, none⟩ from by unfold Addr.add; by_cases h0 : j = 0 <;> simp [h0]]
    rw [cell_of_row w10 _ j _ _ _ hh, ← hj]
    show (List.toArray (bkMark.map bv))[j]? = _
    rw [List.getElem?_toArray]
  have HB10 := Lib.hid (HMB.out.trans (hb10.mono (by simp)))
  have hs10 : w.heap.size + 1 ≤ w10.heap.size := Nat.le_trans (Nat.le_of_eq hsz1.symm) HB10.out.size
  obtain ⟨ad10, hA10, hbl10, hcl10⟩ := Rd.own ho10 (by simp [nb])
  subst hA10
  have HC10 := Lib.hid hcl10
  clear ho10 hb10 hcl10 hcv hsz1
  go_wp2_with (at_builtin; refine push_full elByte rfl _ _ rfl (w.heap.size + 1) (w.heap.size + 1) 6 (bkMark.map bv) rfl HM1.out rfl 4 c10 ad10 ((nb ch 4).map bv) rfl HC10.out (by simp [nb_len]) (bv_one _) (by simp only [maxLen]; omega) (by omega) (by omega) (by omega) ?_)
  intro v11 w11 ho11 hb11
  have HO1 : Hid (w11.ownsRow (w.heap.size + 1) 5 1 v11 (bytesB1 ch).length ((bytesB1 ch).map bv)) := by
    show w11.ownsRow _ _ _ _ _ _
    rw [show (bytesB1 ch).length = 6 + 4 from by rw [bytesB1, List.length_append, nb_len]; rfl, bytesB1, List.map_append]
    exact ho11
  have HB1 := Lib.hid (HB10.out.trans (hb11.mono hs10))
  obtain ⟨A11, c11, rfl, _⟩ := own_form HO1.out
  obtain ⟨k0, k1, k2, k3, k4, hs11⟩ := HRW.out _ HB1.out
  have hlt11 : w.heap.size < w11.heap.size := hs11
  have hl1 : (bytesB1 ch).length = 10 := by rw [bytesB1, List.length_append, nb_len]; rfl
  have hl2 : (bytesB2 f t ch).length ≤ 131200 := by have := HNL.out; rw [bytesB2, List.length_append]; omega
  have HL2 := Lib.hid hl2
  have HL1 := Lib.hid hl1
  clear ho11 hb11 hl1 hl2
  go_wp2_with fail
  refine (l01F2 f t _ _ (rd_alloc w11 [.string f, .string t] _ 9 w11.heap.size rfl rfl) HN0.out.2.2.2.1 HN0.out.2.2.2.2.1).mono ?_
  rintro e w20 ⟨v20, rfl, ho20, hb20⟩
  obtain ⟨A20, c20, rfl, _⟩ := own_form ho20
  have HO20 := Lib.hid ho20
  have HP1 := Lib.hid (own_below (own_below HO1.out (by repeat (first | exact Below.refl _ _ | assumption | refine Below.drew ?_ | refine below_drewN ?_ _ | refine Below.setCell ?_ (by first | exact Nat.le_refl _ | exact Below.size (by assumption) | (simp; done) | (simp; omega) | omega) _ | refine Below.alloc ?_ (by first | exact Nat.le_refl _ | exact Below.size (by assumption) | (simp; done) | (simp; omega) | omega) _))) hb20)
  have HB20 := Lib.hid (HB1.out.trans (Below.trans (by exact (Below.refl _ _).alloc hs11 (.cells #[.string f, .string t] 9)) (hb20.mono (by simp; omega))))
  have hs20 : w.heap.size + 1 ≤ w20.heap.size := Nat.le_trans hs11 (Nat.le_trans (by simp) hb20.size)
  clear ho20 hb20 k0 k1 k2 k3 k4
  go_wp2_with (at_builtin; refine push_row elByte rfl _ _ rfl (w.heap.size + 1) _ (bytesB1 ch).length ((bytesB1 ch).map bv) rfl HP1.out _ A20 (namesF f t).length c20 ((namesF f t).map bv) rfl (Rd.own HO20.out) (by simp) (bv_one _) (by have := HL1.out; have := HNL.out; simp only [maxLen]; omega) (by have := HL1.out; have := HNL.out; omega) (by omega) (own_nilcap HO20.out) ?_)
  intro v21 w21 hp21
  have HO2 : Hid (w21.ownsRow (w.heap.size + 1) 5 1 v21 (bytesB2 f t ch).length ((bytesB2 f t ch).map bv)) := pushed_own (l := bytesB1 ch) (m := namesF f t) hp21 (by rw [List.length_append])
  have HB2 := Lib.hid (hp21.below HP1.out HB20.out (by omega))
  obtain ⟨A21, c21, rfl, _⟩ := own_form HO2.out
  obtain ⟨k0, k1, k2, k3, k4, hs21⟩ := HRW.out _ HB2.out
  have hlt21 : w.heap.size < w21.heap.size := hs21
  clear hp21
  go_wp2_with (at_builtin; refine push_one elByte rfl _ _ rfl (w.heap.size + 1) _ (bytesB2 f t ch).length ((bytesB2 f t ch).map bv) rfl HO2.out [.int .u8 ((ds.length : Int) % 256)] _ rfl rfl rfl (by simp [Value.oneCell']) (by have := HL2.out; simp only [maxLen]; omega) (by have := HL2.out; omega) (by omega) ?_)
  intro v31 w31 hp31
  have HO3 : Hid (w31.ownsRow (w.heap.size + 1) 5 1 v31 (bytesB3 f t ch ds.length).length ((bytesB3 f t ch ds.length).map bv)) := by
    show w31.ownsRow _ _ _ _ _ _
    rw [show (bytesB3 f t ch ds.length).length = (bytesB2 f t ch).length + 1 from by rw [bytesB3, List.length_append, nb_len], bytesB3, List.map_append, nb1_bv]
    exact hp31.1
  have HB3 := Lib.hid (hp31.below HO2.out HB2.out (by omega))
  have hl3 : (bytesB3 f t ch ds.length).length ≤ 131210 := by have := HL2.out; rw [bytesB3, List.length_append, nb_len]; omega
  have HL3 := Lib.hid hl3
  obtain ⟨A31, c31, rfl, _⟩ := own_form HO3.out
  have hs31 : w.heap.size + 1 ≤ w31.heap.size := (HRW.out _ HB3.out).2.2.2.2.2
  clear hp31 hl3 k0 k1 k2 k3 k4
  go_wp2_with fail
  go_loopw [3, 4] (fun v i wr => ∃ k : Nat, k ≤ ds.length ∧ i = .int .i64 k ∧ wr.ownsRow (w.heap.size + 1) 5 1 v (bytesB3 f t ch ds.length ++ bodyB (ds.take k)).length ((bytesB3 f t ch ds.length ++ bodyB (ds.take k)).map bv) ∧ Below (w.heap.size + 1) (w.alloc (.cells #[.string f, .string t, .int .i64 ch, .slice D ds.length dc, .int .i64 sm] 86)) wr) (fun _ i _ => ds.length - (intOf i).toNat)
  case atStart =>
    refine ⟨0, Nat.zero_le _, rfl, ?_, HB3.out⟩
    rw [show bytesB3 f t ch ds.length ++ bodyB (ds.take 0) = bytesB3 f t ch ds.length by rw [List.take_zero]; exact List.append_nil _]
    exact HO3.out
  case round =>
    obtain ⟨k, hk, rfl, ho, hb⟩ := hrel
    obtain ⟨c0, c1, c2, c3, c4, hs⟩ := HRW.out wr hb
    have hbw : Below w.heap.size w wr := Below.trans HB0.out (hb.mono (Nat.le_succ _))
    have hlw : w.heap.size < wr.heap.size := hs
    have hLl : (bytesB3 f t ch ds.length ++ bodyB (ds.take k)).length ≤ 160000 := by
      have h1 := bodyB_len (l := ds.take k) (fun q hq => HK.out.dk q (List.mem_of_mem_take hq))
      have h2 := HK.out.dl
      have h3 := HL3.out
      rw [List.length_take] at h1
      rw [List.length_append]
      omega
    have HO := Lib.hid ho
    have HB := Lib.hid hb
    have HLl := Lib.hid hLl
    have hdl := HK.out.dl
    clear hb HO3 HB3
    by_cases hlt : k < ds.length
    · obtain ⟨ad, rfl, hbl, h1, h2, h3, h4, h5⟩ := (HX.out.below hbw).df hlt
      have hok := Lib.hid (HK.out.dk _ (List.getElem_mem hlt))
      have HSN := Lib.hid (bodyB_snoc ds k hlt)
      have hdl2 := diffF_len hok.out
      generalize hgx : ds[k] = x at *
      generalize hgl : bytesB3 f t ch ds.length ++ bodyB (ds.take k) = L at *
      have HGL := Lib.hid hgl
      obtain ⟨A0, n0, rfl, _⟩ := own_form ho
      clear hgx hgl ho hLl
      go_wp2_with (first
        | (go_at_call 215; refine (l06Diff_any x _ hok.out).mono ?_; rintro e w2 ⟨v2, rfl, ho2, hb2⟩; obtain ⟨A2, n2, rfl, _⟩ := own_form ho2; have HO2 := Lib.hid ho2; have HOL := Lib.hid (own_below HO.out hb2); have HB2 := Lib.hid (HB.out.trans (hb2.mono hs)); have hs2 : w.heap.size + 1 ≤ w2.heap.size := Nat.le_trans hs hb2.size; clear ho2 hb2)
        | (at_builtin; refine push_row elByte rfl _ _ rfl (w.heap.size + 1) _ L.length (L.map bv) rfl HOL.out _ A2 (diffF x).length n2 ((diffF x).map bv) rfl (Rd.own HO2.out) (by simp) (bv_one _) (by have := HLl.out; simp only [maxLen]; omega) (by have := HLl.out; omega) (by omega) (own_nilcap HO2.out) ?_; intro v3 w3 hp3; have HO3 := Lib.hid (pushed_own (l := L) (m := diffF x) hp3 (by rw [List.length_append])); have HB3 := Lib.hid (hp3.below HOL.out HB2.out (by omega)); clear hp3))
      go_roundw
      case rel =>
        refine ⟨k + 1, by omega, by go_num, ?_, HB3.out⟩
        rw [HSN.out, ← List.append_assoc, HGL.out]
        exact HO3.out
      case measure => simp [intOf]; omega
    · have hke : k = ds.length := by omega
      subst hke
      rw [List.take_length] at ho HO hLl
      have HLB : Hid (bytesB3 f t ch ds.length ++ bodyB ds = bytesB4 f t ch ds) := (show _ = _ from rfl)
      rw [HLB.out] at ho HO hLl
      have HL4 := Lib.hid hLl
      obtain ⟨A0, n0, rfl, _⟩ := own_form ho
      clear ho hLl HLl
      go_wp2_with fail
      go_region_held3 (fun w' => w'.cell? ⟨w.heap.size, 0, none⟩ = some (.string f) ∧ w'.cell? ⟨w.heap.size, 1, none⟩ = some (.string t) ∧ w'.cell? ⟨w.heap.size, 2, none⟩ = some (.int .i64 ch) ∧ w'.cell? ⟨w.heap.size, 3, none⟩ = some (.slice D ds.length dc) ∧ w'.cell? ⟨w.heap.size, 4, none⟩ = some (.int .i64 sm) ∧ w.heap.size + 1 ≤ w'.heap.size)
        ((refine HRW.out _ ?_; first | exact hbZ | exact hbE | exact hbK | exact hbP | exact hbS | exact HB.out | exact HB.out.drew | (exact below_drewN HB.out _)))
        (first
          | (go_at_call 200; (with_reducible refine (l01Number4 sm _ HN0.out.2.1).mono ?_); rintro e w2 ⟨v2, rfl, ho2, hb2⟩; have hbS : Below (w.heap.size + 1) (w.alloc (.cells #[.string f, .string t, .int .i64 ch, .slice D ds.length dc, .int .i64 sm] 86)) w2 := Below.trans (by first | exact HB.out | exact HB.out.drew | exact below_drewN HB.out _) (hb2.mono (by first | exact hs | (simp; exact hs))); have hsS := Nat.le_trans hs (Nat.le_trans (by first | exact Nat.le_refl _ | (simp; done)) hb2.size); obtain ⟨A2, n2, rfl, _⟩ := own_form ho2; have HO2 := Lib.hid ho2; have HOL := Lib.hid (own_below (own_below HO.out (by repeat (first | exact Below.refl _ _ | assumption | refine Below.drew ?_ | refine below_drewN ?_ _ | refine Below.setCell ?_ (by first | exact Nat.le_refl _ | exact Below.size (by assumption) | (simp; done) | (simp; omega) | omega) _ | refine Below.alloc ?_ (by first | exact Nat.le_refl _ | exact Below.size (by assumption) | (simp; done) | (simp; omega) | omega) _))) hb2); clear ho2 hb2)
          | (refine step_push_row elByte rfl _ _ rfl (w.heap.size + 1) _ (bytesB4 f t ch ds).length ((bytesB4 f t ch ds).map bv) rfl HOL.out _ A2 4 n2 ((nb sm 4).map bv) rfl (Rd.own HO2.out) (by simp [nb_len]) (bv_one _) (by have := HL4.out; simp only [maxLen]; omega) (by have := HL4.out; omega) (by omega) (own_nilcap HO2.out) ?_; intro v3 w3 hp3; have hbP := hp3.below HOL.out hbS (by omega); have hsP := Nat.le_trans hsS hp3.2.size; have HO5 : Hid (w3.ownsRow (w.heap.size + 1) 5 1 v3 (bytesB5 f t ch ds sm).length ((bytesB5 f t ch ds sm).map bv)) := pushed_own (l := bytesB4 f t ch ds) (m := nb sm 4) hp3 (by rw [List.length_append, nb_len]); obtain ⟨A3, n3, rfl, _⟩ := own_form HO5.out; clear hp3)
          | (go_at_call 212; refine (l06Link_any f t ch D ds dc sm _ (HX.out.next (HB0.out.trans (hbP.mono (Nat.le_succ _)))) HK.out).mono ?_; rintro e w4 ⟨rfl, hb4⟩; have hbK : Below (w.heap.size + 1) (w.alloc (.cells #[.string f, .string t, .int .i64 ch, .slice D ds.length dc, .int .i64 sm] 86)) w4 := hbP.trans (hb4.mono hsP); have hsK := Nat.le_trans hsP hb4.size; have HO6 := Lib.hid (own_below HO5.out hb4); clear hb4)
          | (go_at_call 200; (with_reducible refine (l01Number4 (linkM f t ch ds sm) _ HN0.out.2.2.1).mono ?_); rintro e w5 ⟨v5, rfl, ho5, hb5⟩; have hbE : Below (w.heap.size + 1) (w.alloc (.cells #[.string f, .string t, .int .i64 ch, .slice D ds.length dc, .int .i64 sm] 86)) w5 := hbK.trans (hb5.mono hsK); have hsE := Nat.le_trans hsK hb5.size; obtain ⟨A5, n5, rfl, _⟩ := own_form ho5; have HO7 := Lib.hid ho5; have HO8 := Lib.hid (own_below HO6.out hb5); clear ho5 hb5)
          | (refine step_push_row elByte rfl _ _ rfl (w.heap.size + 1) _ (bytesB5 f t ch ds sm).length ((bytesB5 f t ch ds sm).map bv) rfl HO8.out _ A5 4 n5 ((nb (linkM f t ch ds sm) 4).map bv) rfl (Rd.own HO7.out) (by simp [nb_len]) (bv_one _) (by have := HL4.out; simp only [maxLen, bytesB5, List.length_append, nb_len]; omega) (by have := HL4.out; simp only [bytesB5, List.length_append, nb_len]; omega) (by omega) (own_nilcap HO7.out) ?_; intro v6 w6 hp6; have hbZ := hp6.below HO8.out hbE (by omega))
          | fail)
      all_goals
        have HO9 : Hid (w6.ownsRow (w.heap.size + 1) 5 1 v6 (bytesB f t ch ds sm).length ((bytesB f t ch ds sm).map bv)) := pushed_own (l := bytesB5 f t ch ds sm) (m := nb (linkM f t ch ds sm) 4) hp6 (by rw [List.length_append, nb_len])
        have HBZ := Lib.hid (Below.trans HB0.out (hbZ.mono (Nat.le_succ _)))
        clear hp6 hbZ
        go_wp2_with fail
        go_ret
        exact ⟨_, rfl, own_mono HO9.out (Nat.le_succ _), HBZ.out⟩
end Go.Proofs.Ytlfnpnkpjdmonaa
namespace Go.Proofs.Ytlfnpnkpjdmonaa
open Go.RowKit

/-! ### ArchiveBytes of both sides -/
set_option maxRecDepth 100000 in
theorem archive1_any (m : Bk) (w : World) (hd : Rd w w.heap.size m.D (flat encD m.ds)) (hf : m.f.size ≤ maxLen) (ht : m.t.size ≤ maxLen) (hl : m.ds.length ≤ 1048576) (hs : ∀ d ∈ m.ds, DSz d) :
    Calls Try.prog 161 #[bkV m.f m.t m.ch m.D m.ds.length m.dc m.sm] w fun e w' => e = .returned (.bool (!m.ok)) ∧ Below w.heap.size w w' := by
  have hb0 : Below w.heap.size w (w.alloc (.cells #[.string m.f, .string m.t, .int .i64 m.ch, .slice m.D m.ds.length m.dc, .int .i64 m.sm] 86)) := by repeat (first | exact Below.refl _ _ | assumption | refine Below.drew ?_ | refine below_drewN ?_ _ | refine Below.setCell ?_ (by first | exact Nat.le_refl _ | exact Below.size (by assumption) | (simp; done) | (simp; omega) | omega) _ | refine Below.alloc ?_ (by first | exact Nat.le_refl _ | exact Below.size (by assumption) | (simp; done) | (simp; omega) | omega) _)
  have HB := Lib.hid hb0
  have HC := Lib.hid (implBackupOK_any m.f m.t m.ch m.D m.ds m.dc m.sm _ (hd.next hb0) hl hf ht hs)
  clear hd hb0
  rw [show bkB m.f m.t m.ch m.ds m.sm = m.ok from rfl] at HC
  go_enter Try.func161, Try.ntmps161
  go_wp2_with fail
  refine HC.out.mono ?_
  rintro e w1 ⟨rfl, hb⟩
  have HB1 := Lib.hid (below_after HB.out hb)
  clear hb
  go_wp2_with fail
  go_ret
  exact ⟨rfl, HB1.out⟩
set_option maxRecDepth 100000 in
theorem indexBa_any (A : Option Addr) (c : Nat) (ms : List Bk) (w : World) (hx : Rd w w.heap.size A (flat encBk ms)) (hs : ∀ m ∈ ms, BkSz m w) (hl : ms.length ≤ 1048576) :
    Calls Try.prog 224 #[.slice A ms.length c, .func (.func 161) #[] #[]] w (IdxAll (ms.any fun m => !m.ok) w) := by
  have HX := Lib.hid hx
  have HS := Lib.hid hs
  clear hx hs
  go_enter Try.func224, Try.ntmps224
  go_wp2_with fail
  go_loopw [8] (fun i wr => ∃ k : Nat, k ≤ ms.length ∧ i = .int .i64 k ∧ (∀ m ∈ ms.take k, m.ok = true) ∧ Below w.heap.size w wr) (fun i _ => ms.length - (intOf i).toNat)
  case atStart => exact ⟨0, Nat.zero_le _, rfl, by simp, Below.refl _ _⟩
  case round =>
    obtain ⟨k, hk, rfl, hg, hb⟩ := hrel
    have HG := Lib.hid hg
    clear hg
    by_cases hlt : k < ms.length
    · obtain ⟨ad, rfl, hbl, h1, h2, h3, h4, h5⟩ := (HX.out.below hb).bk hlt
      have HSM := Lib.hid (HS.out _ (List.getElem_mem hlt))
      obtain ⟨m, hm⟩ : ∃ m, m = ms[k] := ⟨_, rfl⟩
      rw [← hm] at h1 h2 h3 h4 h5 HSM
      have HM := Lib.hid hm
      have HB := Lib.hid hb
      clear hm hb
      go_wp2_with fail
      refine (archive1_any m _ (HSM.out.next HB.out).rd HSM.out.fl HSM.out.tl HSM.out.dl HSM.out.ds).mono ?_
      rintro e w2 ⟨rfl, hb2⟩
      have HB2 := Lib.hid (below_after HB.out hb2)
      clear hb2
      cases hok : m.ok with
      | true =>
        have HOK := Lib.hid hok
        clear hok
        go_wp2_with fail
        go_roundw
        case rel =>
          refine ⟨k + 1, hlt, by go_num, fun x hx => ?_, HB2.out⟩
          rw [List.take_succ_eq_append_getElem hlt, List.mem_append] at hx
          rcases hx with hx | hx
          · exact HG.out x hx
          · rw [List.mem_singleton.1 hx, ← HM.out]; exact HOK.out
        case measure => simp [intOf]; omega
      | false =>
        have HOK := Lib.hid hok
        clear hok
        go_wp2_with fail
        go_ret
        refine ⟨k, rfl, ?_, HB2.out⟩
        rw [decide_eq_true (by omega)]
        exact (List.any_eq_true.2 ⟨m, by rw [HM.out]; exact List.getElem_mem hlt, by rw [HOK.out]; rfl⟩).symm
    · go_wp2_with fail
      go_ret
      refine ⟨-1, rfl, ?_, hb⟩
      rw [decide_eq_false (by omega)]
      symm
      rw [List.any_eq_false]
      intro m hm
      rw [HG.out m (by rwa [List.take_of_length_le (by omega)])]
      simp
theorem containsBa_any (A : Option Addr) (c : Nat) (ms : List Bk) (w : World) (hx : Rd w w.heap.size A (flat encBk ms)) (hs : ∀ m ∈ ms, BkSz m w) (hl : ms.length ≤ 1048576) :
    Calls Try.prog 160 #[.slice A ms.length c, .func (.func 161) #[] #[]] w fun e w' => e = .returned (.bool (ms.any fun m => !m.ok)) ∧ Below w.heap.size w w' := by
  have HC := Lib.hid (indexBa_any A c ms w hx hs hl)
  generalize (ms.any fun m => !m.ok) = b at HC ⊢
  clear hx hs
  go_enter Try.func160, Try.ntmps160
  go_wp2_with fail
  refine HC.out.mono ?_
  rintro e w1 ⟨n, rfl, hn, hb⟩
  have HB := Lib.hid hb
  have HN := Lib.hid hn
  clear hb hn
  go_wp2_with fail
  go_ret
  exact ⟨by rw [← HN.out]; rfl, HB.out⟩

noncomputable def archM (ms : List Bk) : List ByteArray × Int := if 4096 < ms.length then ([], 2) else if 20 < ms.length then ([], 6) else if (ms.any fun m => !m.ok) = true then ([], 1) else (ms.map fun m => bs m.bytes, 0)
def ArchPost (ms : List Bk) (w : World) (e : Ending) (w' : World) : Prop := ∃ v, e = .returned (.tuple #[v, .int .i64 (archM ms).2]) ∧ w'.ownsRow w.heap.size 9 1 v (archM ms).1.length ((archM ms).1.map Value.string) ∧ Below w.heap.size w w'
theorem arch_bad {ms : List Bk} {w w' : World} {v : Value} {n : Int} (h : archM ms = ([], n)) (ho : w'.ownsRow w.heap.size 9 1 v 0 []) (hb : Below w.heap.size w w') : ArchPost ms w (.returned (.tuple #[v, .int .i64 n])) w' := by
  refine ⟨v, ?_, ?_, hb⟩
  · rw [h]
  · rw [h]; exact ho
theorem BkG.sz {m : Bk} {w : World} (h : BkG m) (hd : BkSm m) (hr : Rd w w.heap.size m.D (flat encD m.ds)) : BkSz m w := ⟨hr, h.fl, h.tl, hd.1, hd.2⟩
theorem specOK_any (m : Bk) (w : World) (h : BkSz m w) : Calls Try.prog 147 #[m.v] w fun e w' => e = .returned (.bool m.ok) ∧ Below w.heap.size w w' :=
  specBackupOK_any m.f m.t m.ch m.D m.ds m.dc m.sm w h.rd h.dl h.fl h.tl h.ds
theorem specBytes_any (m : Bk) (w : World) (h : Rd w w.heap.size m.D (flat encD m.ds)) (hr : BkR m) : Calls Try.prog 148 #[m.v] w (BytesMade m.bytes w) := by
  have hc := l06Bytes_any m.f m.t m.ch.toNat m.D m.ds m.dc m.sm.toNat w h hr.bkok
  rw [Int.toNat_of_nonneg hr.c0, Int.toNat_of_nonneg hr.s0] at hc
  exact hc
theorem bytes_len {m : Bk} (h : BkR m) : m.bytes.length ≤ 200000 := bytesB_len h.bkok
set_option maxRecDepth 100000 in
set_option maxHeartbeats 4000000 in
theorem specArchive_any (A : Option Addr) (c : Nat) (ms : List Bk) (w : World) (hx : BRd w w.heap.size A ms) (hl : ms.length ≤ 1048576) (hs : ∀ m ∈ ms, BkG m ∧ BkSm m) :
    Calls Try.prog 77 #[.slice A ms.length c] w (ArchPost ms w) := by
  have HX := Lib.hid hx
  have HS := Lib.hid hs
  clear hx hs
  by_cases h1 : 4096 < ms.length
  · have HM : Hid (archM ms = ([], 2)) := if_pos h1
    go_enter Try.func77, Try.ntmps77
    go_wp2
    go_ret2
    exact arch_bad HM.out (own_empty_at (Nat.le_refl _) (heap_alloc_new _ _)) (by repeat (first | exact Below.refl _ _ | assumption | refine Below.drew ?_ | refine below_drewN ?_ _ | refine Below.setCell ?_ (by first | exact Nat.le_refl _ | exact Below.size (by assumption) | (simp; done) | (simp; omega) | omega) _ | refine Below.alloc ?_ (by first | exact Nat.le_refl _ | exact Below.size (by assumption) | (simp; done) | (simp; omega) | omega) _))
  by_cases h2 : 20 < ms.length
  · have HM : Hid (archM ms = ([], 6)) := by show archM ms = _; rw [archM, if_neg h1, if_pos h2]
    go_enter Try.func77, Try.ntmps77
    go_wp2
    go_ret2
    exact arch_bad HM.out (own_empty_at (Nat.le_refl _) (heap_alloc_new _ _)) (by repeat (first | exact Below.refl _ _ | assumption | refine Below.drew ?_ | refine below_drewN ?_ _ | refine Below.setCell ?_ (by first | exact Nat.le_refl _ | exact Below.size (by assumption) | (simp; done) | (simp; omega) | omega) _ | refine Below.alloc ?_ (by first | exact Nat.le_refl _ | exact Below.size (by assumption) | (simp; done) | (simp; omega) | omega) _))
  have HM : Hid (archM ms = if (ms.any fun m => !m.ok) = true then ([], 1) else (ms.map fun m => bs m.bytes, 0)) := by show archM ms = _; rw [archM, if_neg h1, if_neg h2]
  have H0 : Hid ((w.alloc (.cells #[] 9)).ownsRow w.heap.size 9 1 (.slice (some ⟨w.heap.size, 0, none⟩) 0 0) 0 []) := own_empty_at (Nat.le_refl _) (heap_alloc_new _ _)
  have HB0 : Hid (Below w.heap.size w (w.alloc (.cells #[] 9))) := by show Below _ _ _; repeat (first | exact Below.refl _ _ | assumption | refine Below.drew ?_ | refine below_drewN ?_ _ | refine Below.setCell ?_ (by first | exact Nat.le_refl _ | exact Below.size (by assumption) | (simp; done) | (simp; omega) | omega) _ | refine Below.alloc ?_ (by first | exact Nat.le_refl _ | exact Below.size (by assumption) | (simp; done) | (simp; omega) | omega) _)
  go_enter Try.func77, Try.ntmps77
  go_wp2
  go_loopw [4, 5] (fun v i wr => ∃ k : Nat, k ≤ ms.length ∧ i = .int .i64 k ∧ wr.ownsRow w.heap.size 9 1 v k ((ms.take k).map fun m => Value.string (bs m.bytes)) ∧ (∀ m ∈ ms.take k, m.ok = true) ∧ Below w.heap.size w wr) (fun _ i _ => ms.length - (intOf i).toNat)
  case atStart => exact ⟨0, Nat.zero_le _, rfl, H0.out, by simp, HB0.out⟩
  case round =>
    obtain ⟨k, hk, rfl, ho, hg, hb⟩ := hrel
    have HO := Lib.hid ho
    have HG := Lib.hid hg
    obtain ⟨A0, n0, rfl, _⟩ := own_form ho
    clear ho hg H0 HB0
    by_cases hlt : k < ms.length
    · obtain ⟨ad, rfl, hbl, c0, c1, c2, c3, c4⟩ := (HX.out.1.below hb).bk hlt
      have HSM := Lib.hid (HS.out _ (List.getElem_mem hlt))
      have HR := Lib.hid (HX.out.2 _ (List.getElem_mem hlt))
      have HTK : Hid ((ms.take (k + 1)) = ms.take k ++ [ms[k]]) := List.take_succ_eq_append_getElem hlt
      have HMEM : Hid (ms[k] ∈ ms) := List.getElem_mem hlt
      generalize hgm : ms[k] = m at *
      have hs := hb.size
      have HB := Lib.hid hb
      have HC : Hid (∀ W : World, Below wr.heap.size wr W → W.cell? (ad.add (k * 5)) = some (.string m.f) ∧ W.cell? ⟨(ad.add (k * 5)).block, (ad.add (k * 5)).off + 1, none⟩ = some (.string m.t) ∧ W.cell? ⟨(ad.add (k * 5)).block, (ad.add (k * 5)).off + 1 + 1, none⟩ = some (.int .i64 m.ch) ∧ W.cell? ⟨(ad.add (k * 5)).block, (ad.add (k * 5)).off + 1 + 1 + 1, none⟩ = some (.slice m.D m.ds.length m.dc) ∧ W.cell? ⟨(ad.add (k * 5)).block, (ad.add (k * 5)).off + 1 + 1 + 1 + 1, none⟩ = some (.int .i64 m.sm)) := fun W hB => by
        have hlb : (ad.add (k * 5)).block < wr.heap.size := by rw [add_block]; omega
        exact ⟨(hB.cell hlb).trans c0, (hB.cell (p := ⟨_, _, none⟩) hlb).trans c1, (hB.cell (p := ⟨_, _, none⟩) hlb).trans c2, (hB.cell (p := ⟨_, _, none⟩) hlb).trans c3, (hB.cell (p := ⟨_, _, none⟩) hlb).trans c4⟩
      clear hgm hb
      go_wp2_with fail
      refine (specOK_any m _ (HSM.out.1.sz HSM.out.2 (HR.out.next HB.out))).mono ?_
      rintro e w2 ⟨rfl, hb2⟩
      obtain ⟨d0, d1, d2, d3, d4⟩ := HC.out _ hb2
      have hs2 := hb2.size
      have HB2 := Lib.hid (below_after HB.out hb2)
      have HO2 := Lib.hid (own_below HO.out hb2)
      clear hb2 c0 c1 c2 c3 c4 HC HO
      cases hok : m.ok with
      | false =>
        have HA : Hid ((ms.any fun m => !m.ok) = true) := List.any_eq_true.2 ⟨m, HMEM.out, by rw [hok]; rfl⟩
        clear hok
        go_wp2_with fail
        go_ret2
        exact arch_bad (by rw [HM.out, if_pos HA.out]) (own_empty_at (by omega) (heap_alloc_new _ _)) (by repeat (first | exact Below.refl _ _ | assumption | refine Below.drew ?_ | refine below_drewN ?_ _ | refine Below.setCell ?_ (by first | exact Nat.le_refl _ | exact Below.size (by assumption) | (simp; done) | (simp; omega) | omega) _ | refine Below.alloc ?_ (by first | exact Nat.le_refl _ | exact Below.size (by assumption) | (simp; done) | (simp; omega) | omega) _))
      | true =>
        have HK := Lib.hid (Bk.ok_r hok)
        have HOK := Lib.hid hok
        clear hok
        go_wp2_with fail
        refine (specBytes_any m _ (HR.out.next HB2.out) HK.out).mono ?_
        rintro e w3 ⟨v3, rfl, ho3, hb3⟩
        obtain ⟨A3, n3, rfl, _⟩ := own_form ho3
        have hc3 := conv_rd (c := n3) (Rd.own ho3)
        have hs3 := hb3.size
        have HO3 := Lib.hid (own_below HO2.out hb3)
        have HB3 := Lib.hid (below_after HB2.out hb3)
        clear ho3 hb3 d0 d1 d2 d3 d4
        go_wp2_with (at_builtin; refine push_one elStr rfl _ _ rfl w.heap.size _ k _ rfl HO3.out [.string (bs m.bytes)] _ rfl rfl rfl (by simp [Value.oneCell']) (by simp only [maxLen]; omega) (by omega) (by omega) ?_; intro v4 w4 hp)
        have HB4 := Lib.hid (hp.below HO3.out HB3.out (by omega))
        have HP := Lib.hid hp.1
        clear hp hc3
        go_wp2_with fail
        go_roundw
        case rel =>
          refine ⟨k + 1, by omega, by go_num, ?_, fun x hx => ?_, HB4.out⟩
          · rw [HTK.out, List.map_append]
            exact HP.out
          · rw [HTK.out, List.mem_append] at hx
            rcases hx with hx | hx
            · exact HG.out x hx
            · rw [List.mem_singleton.1 hx]; exact HOK.out
        case measure => simp [intOf]; omega
    · have hke : k = ms.length := by omega
      subst hke
      have HF : Hid ((ms.any fun m => !m.ok) = false) := List.any_eq_false.2 fun m hm => by rw [HG.out m (by rwa [List.take_length])]; simp
      have HO2 := HO.out
      rw [List.take_length] at HO2
      have HO3 := Lib.hid HO2
      clear HO2
      go_wp2
      go_ret2
      have e : archM ms = (ms.map fun m => bs m.bytes, 0) := by rw [HM.out, if_neg (by rw [HF.out]; simp)]
      refine ⟨.slice A0 ms.length n0, by rw [e]; rfl, ?_, hb⟩
      rw [e, List.length_map, List.map_map]
      exact HO3.out
set_option maxRecDepth 100000 in
set_option maxHeartbeats 4000000 in
theorem implArchive_any (base : Nat) (A : Option Addr) (c : Nat) (ms : List Bk) (w : World) (hv : BOwn w base A c ms) (hl : ms.length ≤ 1048576) (hs : ∀ m ∈ ms, BkG m ∧ BkSm m) :
    Calls Try.prog 79 #[.slice A ms.length c] w (ArchPost ms w) := by
  have HX := Lib.hid hv.rd
  have HS := Lib.hid hs
  have HV := Lib.hid hv
  clear hv hs
  by_cases h1 : 4096 < ms.length
  · have HM : Hid (archM ms = ([], 2)) := if_pos h1
    go_enter Try.func79, Try.ntmps79
    go_wp2
    go_ret2
    exact arch_bad HM.out (own_nilRow _ _ _ _) (Below.refl _ _)
  by_cases h2 : 20 < ms.length
  · have HM : Hid (archM ms = ([], 6)) := by show archM ms = _; rw [archM, if_neg h1, if_pos h2]
    go_enter Try.func79, Try.ntmps79
    go_wp2
    go_ret2
    exact arch_bad HM.out (own_nilRow _ _ _ _) (Below.refl _ _)
  have HM : Hid (archM ms = if (ms.any fun m => !m.ok) = true then ([], 1) else (ms.map fun m => bs m.bytes, 0)) := by show archM ms = _; rw [archM, if_neg h1, if_neg h2]
  have HC := Lib.hid (containsBa_any A c ms w HX.out.1 (fun m hm => (HS.out m hm).1.sz (HS.out m hm).2 (HX.out.2 m hm)) hl)
  go_enter Try.func79, Try.ntmps79
  go_wp2_with fail
  refine HC.out.mono ?_
  rintro e w1 ⟨rfl, hb1⟩
  have HB1 := Lib.hid hb1
  have hs1 := hb1.size
  clear hb1 HC
  cases ha : (ms.any fun m => !m.ok) with
  | true =>
    rw [ha, if_pos rfl] at HM
    clear ha
    go_wp2_with fail
    go_ret2
    exact arch_bad HM.out (own_nilRow _ _ _ _) HB1.out
  | false =>
    have HAL : Hid (∀ m ∈ ms, m.ok = true) := fun m hm => by have := List.any_eq_false.1 ha m hm; simpa using this
    rw [ha, if_neg (by simp)] at HM
    have H0 : Hid ((w1.alloc (.cells #[] 9)).ownsRow w.heap.size 9 1 (.slice (some ⟨w1.heap.size, 0, none⟩) 0 0) 0 []) := own_empty_at hs1 (heap_alloc_new _ _)
    have HB0 : Hid (Below w.heap.size w (w1.alloc (.cells #[] 9))) := by show Below _ _ _; exact HB1.out.alloc hs1 _
    clear ha
    go_wp2_with fail
    go_loopw [4, 20] (fun v i wr => ∃ k : Nat, k ≤ ms.length ∧ i = .int .i64 k ∧ wr.ownsRow w.heap.size 9 1 v k ((ms.take k).map fun m => Value.string (bs m.bytes)) ∧ Below w.heap.size w wr) (fun _ i _ => ms.length - (intOf i).toNat)
    case atStart => exact ⟨0, Nat.zero_le _, rfl, H0.out, HB0.out⟩
    case round =>
      obtain ⟨k, hk, rfl, ho, hb⟩ := hrel
      have HO := Lib.hid ho
      obtain ⟨A0, n0, rfl, _⟩ := own_form ho
      clear ho H0 HB0
      by_cases hlt : k < ms.length
      · have hz : ∃ g, A = some ⟨g, 0, none⟩ := by
          rcases HV.out.1.2 with ⟨hn, hz⟩ | ⟨g, cap, cur, hn, _⟩
          · injection hn with hn1 hn2 hn3; omega
          · injection hn with hn1; exact ⟨g, hn1⟩
        obtain ⟨g, rfl⟩ := hz
        have hov := own_below HV.out.1 hb
        have HAO : Hid (BkAo wr g (k * 5) ms[k].f ms[k].t (ms[k].ch.toNat : Int) ms[k].D ms[k].ds ms[k].dc (ms[k].sm.toNat : Int)) := by
          have hr := Bk.ok_r (HAL.out _ (List.getElem_mem hlt))
          have hln : (flat encBk ms).length = ms.length * 5 := hov.1
          obtain ⟨cur, hh⟩ := own_heap hov
          rw [Int.toNat_of_nonneg hr.c0, Int.toNat_of_nonneg hr.s0]
          obtain ⟨b0, b1, b2, b3, b4⟩ := bk_at hlt
          exact ⟨(hov.cellAt (k * 5) (by omega)).trans b0, (hov.cellAt (k * 5 + 1) (by omega)).trans b1, (hov.cellAt (k * 5 + 2) (by omega)).trans b2, (hov.cellAt (k * 5 + 3) (by omega)).trans b3, (hov.cellAt (k * 5 + 4) (by omega)).trans b4, (Array.getElem?_eq_some_iff.1 hh).1, (HX.out.2 _ (List.getElem_mem hlt)).next hb⟩
        have HK := Lib.hid (Bk.ok_r (HAL.out _ (List.getElem_mem hlt)))
        have HTK : Hid ((ms.take (k + 1)) = ms.take k ++ [ms[k]]) := List.take_succ_eq_append_getElem hlt
        generalize hgm : ms[k] = m at *
        have hs := hb.size
        have HB := Lib.hid hb
        clear hgm hb hov
        go_wp2_with fail
        refine (bkBytes_at g (k * 5) m.f m.t m.ch.toNat m.D m.ds m.dc m.sm.toNat _ HAO.out HK.out.bkok).mono ?_
        rw [show bytesB m.f m.t m.ch.toNat m.ds m.sm.toNat = m.bytes from rfl]
        rintro e w3 ⟨rfl, hb3⟩
        have hs3 := hb3.size
        have HO3 := Lib.hid (own_below HO.out hb3)
        have HB3 := Lib.hid (below_after HB.out hb3)
        clear hb3
        go_wp2_with (at_builtin; refine push_one elStr rfl _ _ rfl w.heap.size _ k _ rfl HO3.out [.string (bs m.bytes)] _ rfl rfl rfl (by simp [Value.oneCell']) (by simp only [maxLen]; omega) (by omega) (by omega) ?_; intro v4 w4 hp)
        have HB4 := Lib.hid (hp.below HO3.out HB3.out (by omega))
        have HP := Lib.hid hp.1
        clear hp
        go_wp2_with fail
        go_roundw
        case rel =>
          refine ⟨k + 1, by omega, by go_num, ?_, HB4.out⟩
          rw [HTK.out, List.map_append]
          exact HP.out
        case measure => simp [intOf]; omega
      · have hke : k = ms.length := by omega
        subst hke
        have HO2 := HO.out
        rw [List.take_length] at HO2
        have HO3 := Lib.hid HO2
        clear HO2
        go_wp2
        go_ret2
        refine ⟨.slice A0 ms.length n0, by rw [HM.out]; rfl, ?_, hb⟩
        rw [HM.out, List.length_map, List.map_map]
        exact HO3.out
theorem archM_len (ms : List Bk) : (archM ms).1.length ≤ 20 := by
  unfold archM
  repeat' split
  all_goals simp
  omega
theorem archM_data {xs ys : List Bk} (h : ys.map Bk.data = xs.map Bk.data) : archM ys = archM xs := by
  have e1 : ys.length = xs.length := tbs_len h
  have h1 : ∀ ms : List Bk, (ms.any fun m => !m.ok) = ((ms.map Bk.data).any fun d => !bkB d.1 d.2.1 d.2.2.1 d.2.2.2.1 d.2.2.2.2) := fun ms => by rw [List.any_map]; rfl
  have h2 : ∀ ms : List Bk, (ms.map fun m => bs m.bytes) = ((ms.map Bk.data).map fun d => bs (bytesB d.1 d.2.1 d.2.2.1.toNat d.2.2.2.1 d.2.2.2.2.toNat)) := fun ms => by rw [List.map_map]; rfl
  unfold archM
  rw [e1, h1 ys, h1 xs, h2 ys, h2 xs, h]
end Go.Proofs.Ytlfnpnkpjdmonaa
