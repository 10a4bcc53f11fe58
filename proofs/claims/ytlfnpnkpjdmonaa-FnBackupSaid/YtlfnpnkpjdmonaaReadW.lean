import Derived.Test.YtlfnpnkpjdmonaaSRead
set_option linter.unusedVariables false
set_option linter.unusedSimpArgs false
namespace Go.Proofs.Ytlfnpnkpjdmonaa
open Go.RowKit

/-! ### ReadBackup of both sides -/
noncomputable def rdAll (xs : List UInt8) : Bq × Int := if 65536 < xs.length then (bkZero, 2) else readM xs
theorem res_outv {w wr : World} (h : Res w wr) (v0 v1 v2 v3 v4 : Value) :
    let W := ((((wr.setCell ⟨w.heap.size, 0, none⟩ v0).setCell ⟨w.heap.size, 1, none⟩ v1).setCell ⟨w.heap.size, 2, none⟩ v2).setCell ⟨w.heap.size, 3, none⟩ v3).setCell ⟨w.heap.size, 4, none⟩ v4
    W.cell? ⟨w.heap.size, 0, none⟩ = some v0 ∧ W.cell? ⟨w.heap.size, 1, none⟩ = some v1 ∧ W.cell? ⟨w.heap.size, 2, none⟩ = some v2 ∧ W.cell? ⟨w.heap.size, 3, none⟩ = some v3 ∧ W.cell? ⟨w.heap.size, 4, none⟩ = some v4 ∧ Below w.heap.size w W ∧ ∀ (D : Option Addr) (n dc : Nat) (xs : List Value), wr.ownsRow (w.heap.size + 1) 145 5 (.slice D n dc) n xs → W.ownsRow w.heap.size 145 5 (.slice D n dc) n xs := by
  intro W
  have hn5 : W.heap[w.heap.size]? = _ := heap_set5 h.res v0 v1 v2 v3 v4
  refine ⟨by rw [cell_of_row W _ 0 _ _ _ hn5]; rfl, by rw [cell_of_row W _ 1 _ _ _ hn5]; rfl, by rw [cell_of_row W _ 2 _ _ _ hn5]; rfl, by rw [cell_of_row W _ 3 _ _ _ hn5]; rfl, by rw [cell_of_row W _ 4 _ _ _ hn5]; rfl, ?_, fun D n dc xs ho => ?_⟩
  · exact ((((h.below.setCell (p := ⟨w.heap.size, 0, none⟩) (Nat.le_refl _) _).setCell (p := ⟨w.heap.size, 1, none⟩) (Nat.le_refl _) _).setCell (p := ⟨w.heap.size, 2, none⟩) (Nat.le_refl _) _).setCell (p := ⟨w.heap.size, 3, none⟩) (Nat.le_refl _) _).setCell (p := ⟨w.heap.size, 4, none⟩) (Nat.le_refl _) _
  · have hne : (Value.slice D n dc).ownBlock ≠ some w.heap.size := own_ne_blk ho h.res (by decide)
    exact own_mono (((((ho.kept (grown_set _ _ _ _) (.inr hne)).kept (grown_set _ _ _ _) (.inr hne)).kept (grown_set _ _ _ _) (.inr hne)).kept (grown_set _ _ _ _) (.inr hne)).kept (grown_set _ _ _ _) (.inr hne)) (Nat.le_succ _)
set_option maxRecDepth 100000 in
set_option maxHeartbeats 4000000 in
theorem implReadBackup_any (A : Option Addr) (c : Nat) (xs : List UInt8) (w : World) (hx : Rd w w.heap.size A (xs.map bv)) :
    Calls Try.prog 68 #[.slice A xs.length c] w (ReadPost (rdAll xs) w) := by
  have HR0 : Hid (Res w (w.alloc (.cells #[.string ⟨#[]⟩, .string ⟨#[]⟩, .int .i64 0, .slice none 0 0, .int .i64 0] 86))) := ⟨heap_alloc_new _ _, by repeat (first | exact Below.refl _ _ | assumption | refine Below.drew ?_ | refine below_drewN ?_ _ | refine Below.setCell ?_ (by first | exact Nat.le_refl _ | exact Below.size (by assumption) | (simp; done) | (simp; omega) | omega) _ | refine Below.alloc ?_ (by first | exact Nat.le_refl _ | exact Below.size (by assumption) | (simp; done) | (simp; omega) | omega) _)⟩
  obtain ⟨r0, r1, r2, r3, r4, rf0, rf1, rf2, rf3, rf4⟩ := HR0.out.cells
  by_cases hl : 65536 < xs.length
  · have HZ : Hid (rdAll xs = (bkZero, 2)) := if_pos hl
    clear hx
    go_enter Try.func68, Try.ntmps68
    go_wp2_with fail
    refine bodyPost_ret (v := .tuple #[bkV ⟨#[]⟩ ⟨#[]⟩ 0 none 0 0 0, .int .i64 2]) (by simp [results, Try.results68, go_sem]) rfl ?_
    rw [HZ.out]
    exact ⟨none, 0, rfl, own_nilRow _ _ _ _, HR0.out.below⟩
  · have HZ : Hid (rdAll xs = readM xs) := if_neg hl
    have hc := conv_rd (c := c) (hx.below HR0.out.below)
    have HIN : Hid (∀ W : World, Calls Try.prog 149 #[.string (bs xs)] W (ReadPost (readM xs) W)) := fun W => readBackup_any xs W (by omega)
    clear hx
    go_enter Try.func68, Try.ntmps68
    go_wp2_with fail
    refine (HIN.out _).mono ?_
    rintro e w2 ⟨D, dc, rfl, ho2, hb2⟩
    have hr2 : Res w w2 := ⟨(hb2.block _ (by simp)).trans HR0.out.res, below_after HR0.out.below hb2⟩
    obtain ⟨s0, s1, s2, s3, s4, sf0, sf1, sf2, sf3, sf4⟩ := hr2.cells
    have HO2 := Lib.hid ho2
    generalize hq : readM xs = q at *
    obtain ⟨⟨f, t, ch, ds, sm, lk⟩, er⟩ := q
    have HK := Lib.hid (res_outv hr2 (.string f) (.string t) (.int .i64 ch) (.slice D ds.length dc) (.int .i64 sm))
    clear hb2 hr2 r0 r1 r2 r3 r4 rf0 rf1 rf2 rf3 rf4 hc ho2 HIN
    go_wp2_with fail
    generalize (((((w2.setCell ⟨w.heap.size, 0, none⟩ (.string f)).setCell ⟨w.heap.size, 1, none⟩ (.string t)).setCell ⟨w.heap.size, 2, none⟩ (.int .i64 ch)).setCell ⟨w.heap.size, 3, none⟩ (.slice D ds.length dc)).setCell ⟨w.heap.size, 4, none⟩ (.int .i64 sm)) = W5 at HK ⊢
    obtain ⟨z0, z1, z2, z3, z4, hb5, hown⟩ := HK.out
    refine bodyPost_ret (v := .tuple #[bkV f t ch D ds.length dc sm, .int .i64 er]) (by simp [results, Try.results68, go_sem, z0, z1, z2, z3, z4]) rfl ?_
    rw [HZ.out]
    exact ⟨D, dc, rfl, hown _ _ _ _ (by have h := HO2.out; rw [World.size_alloc] at h; exact h), hb5⟩
set_option maxRecDepth 100000 in
set_option maxHeartbeats 4000000 in
theorem specReadBackup_any (A : Option Addr) (c : Nat) (xs : List UInt8) (w : World) (hx : Rd w w.heap.size A (xs.map bv)) :
    Calls Try.prog 82 #[.slice A xs.length c] w (ReadPost (rdAll xs) w) := by
  have HR0 : Hid (Res w (w.alloc (.cells #[.string ⟨#[]⟩, .string ⟨#[]⟩, .int .i64 0, .slice none 0 0, .int .i64 0] 86))) := ⟨heap_alloc_new _ _, by repeat (first | exact Below.refl _ _ | assumption | refine Below.drew ?_ | refine below_drewN ?_ _ | refine Below.setCell ?_ (by first | exact Nat.le_refl _ | exact Below.size (by assumption) | (simp; done) | (simp; omega) | omega) _ | refine Below.alloc ?_ (by first | exact Nat.le_refl _ | exact Below.size (by assumption) | (simp; done) | (simp; omega) | omega) _)⟩
  obtain ⟨r0, r1, r2, r3, r4, rf0, rf1, rf2, rf3, rf4⟩ := HR0.out.cells
  by_cases hl : 65536 < xs.length
  · have HZ : Hid (rdAll xs = (bkZero, 2)) := if_pos hl
    clear hx
    go_enter Try.func82, Try.ntmps82
    go_wp2_with fail
    refine bodyPost_ret (v := .tuple #[bkV ⟨#[]⟩ ⟨#[]⟩ 0 none 0 0 0, .int .i64 2]) (by simp [results, Try.results82, go_sem]) rfl ?_
    rw [HZ.out]
    exact ⟨none, 0, rfl, own_nilRow _ _ _ _, HR0.out.below⟩
  · have HZ : Hid (rdAll xs = readM xs) := if_neg hl
    have hc := conv_rd (c := c) (hx.below HR0.out.below)
    have HIN : Hid (∀ W : World, Calls Try.prog 163 #[.string (bs xs)] W (ReadPost (readM xs) W)) := fun W => l06Read_any xs W (by omega)
    clear hx
    go_enter Try.func82, Try.ntmps82
    go_wp2_with fail
    refine (HIN.out _).mono ?_
    rintro e w2 ⟨D, dc, rfl, ho2, hb2⟩
    have hr2 : Res w w2 := ⟨(hb2.block _ (by simp)).trans HR0.out.res, below_after HR0.out.below hb2⟩
    obtain ⟨s0, s1, s2, s3, s4, sf0, sf1, sf2, sf3, sf4⟩ := hr2.cells
    have HO2 := Lib.hid ho2
    generalize hq : readM xs = q at *
    obtain ⟨⟨f, t, ch, ds, sm, lk⟩, er⟩ := q
    have HK := Lib.hid (res_outv hr2 (.string f) (.string t) (.int .i64 ch) (.slice D ds.length dc) (.int .i64 sm))
    clear hb2 hr2 r0 r1 r2 r3 r4 rf0 rf1 rf2 rf3 rf4 hc ho2 HIN
    go_wp2_with fail
    generalize (((((w2.setCell ⟨w.heap.size, 0, none⟩ (.string f)).setCell ⟨w.heap.size, 1, none⟩ (.string t)).setCell ⟨w.heap.size, 2, none⟩ (.int .i64 ch)).setCell ⟨w.heap.size, 3, none⟩ (.slice D ds.length dc)).setCell ⟨w.heap.size, 4, none⟩ (.int .i64 sm)) = W5 at HK ⊢
    obtain ⟨z0, z1, z2, z3, z4, hb5, hown⟩ := HK.out
    refine bodyPost_ret (v := .tuple #[bkV f t ch D ds.length dc sm, .int .i64 er]) (by simp [results, Try.results82, go_sem, z0, z1, z2, z3, z4]) rfl ?_
    rw [HZ.out]
    exact ⟨D, dc, rfl, hown _ _ _ _ (by have h := HO2.out; rw [World.size_alloc] at h; exact h), hb5⟩
end Go.Proofs.Ytlfnpnkpjdmonaa
namespace Go.Proofs.Ytlfnpnkpjdmonaa
open Go.RowKit

/-! ### the law's own helpers at differences and backups -/
set_option maxRecDepth 100000 in
theorem eqDiff_self (d : Df) (w : World) : Calls Try.prog 226 #[dfV d, dfV d] w fun e w' => e = .returned (.bool true) ∧ Below w.heap.size w w' := by
  obtain ⟨key, old, new, had, has⟩ := d
  cases had <;> cases has
  all_goals
    go_enter Try.func226, Try.ntmps226
    go_wp2
    go_ret
    exact ⟨rfl, by repeat (first | exact Below.refl _ _ | assumption | refine Below.drew ?_ | refine below_drewN ?_ _ | refine Below.setCell ?_ (by first | exact Nat.le_refl _ | exact Below.size (by assumption) | (simp; done) | (simp; omega) | omega) _ | refine Below.alloc ?_ (by first | exact Nat.le_refl _ | exact Below.size (by assumption) | (simp; done) | (simp; omega) | omega) _)⟩
set_option maxRecDepth 100000 in
set_option maxHeartbeats 4000000 in
theorem eqDiffS_eq (A B : Option Addr) (c d : Nat) (xs : List Df) (w : World) (hx : Rd w w.heap.size A (flat encD xs)) (hy : Rd w w.heap.size B (flat encD xs)) (hl : xs.length ≤ 1048576) :
    Calls Try.prog 164 #[.slice A xs.length c, .slice B xs.length d] w fun e w' => e = .returned (.bool true) ∧ Below w.heap.size w w' := by
  have HX := Lib.hid hx
  have HY := Lib.hid hy
  clear hx hy
  go_enter Try.func164, Try.ntmps164
  go_wp2
  go_loopw [5] (fun i wr => ∃ k : Nat, k ≤ xs.length ∧ i = .int .i64 k ∧ Below w.heap.size w wr) (fun i _ => xs.length - (intOf i).toNat)
  case atStart => exact ⟨0, Nat.zero_le _, rfl, Below.refl _ _⟩
  case round =>
    obtain ⟨k, hk, rfl, hb⟩ := hrel
    by_cases hlt : k < xs.length
    · obtain ⟨ad, rfl, hbl, h0, h1, h2, h3, h4⟩ := (HX.out.below hb).df hlt
      obtain ⟨bd, rfl, hbl', g0, g1, g2, g3, g4⟩ := (HY.out.below hb).df hlt
      have hcl := hb.size
      generalize hgx : xs[k] = x at *
      clear hgx
      go_wp2
      go_region_held3 (fun w' => w'.cell? (ad.add (k * 5)) = some (.string x.key) ∧ w'.cell? ⟨(ad.add (k * 5)).block, (ad.add (k * 5)).off + 1, none⟩ = some (.string x.old) ∧ w'.cell? ⟨(ad.add (k * 5)).block, (ad.add (k * 5)).off + 1 + 1, none⟩ = some (.string x.new) ∧ w'.cell? ⟨(ad.add (k * 5)).block, (ad.add (k * 5)).off + 1 + 1 + 1, none⟩ = some (.bool x.had) ∧ w'.cell? ⟨(ad.add (k * 5)).block, (ad.add (k * 5)).off + 1 + 1 + 1 + 1, none⟩ = some (.bool x.has) ∧ w'.cell? (bd.add (k * 5)) = some (.string x.key) ∧ w'.cell? ⟨(bd.add (k * 5)).block, (bd.add (k * 5)).off + 1, none⟩ = some (.string x.old) ∧ w'.cell? ⟨(bd.add (k * 5)).block, (bd.add (k * 5)).off + 1 + 1, none⟩ = some (.string x.new) ∧ w'.cell? ⟨(bd.add (k * 5)).block, (bd.add (k * 5)).off + 1 + 1 + 1, none⟩ = some (.bool x.had) ∧ w'.cell? ⟨(bd.add (k * 5)).block, (bd.add (k * 5)).off + 1 + 1 + 1 + 1, none⟩ = some (.bool x.has))
        (refine ⟨?_, ?_, ?_, ?_, ?_, ?_, ?_, ?_, ?_, ?_⟩ <;> first | assumption | (exact (hb2.cell (by simp only [add_block, World.size_drew]; omega)).trans (by assumption)))
        (first | (go_at_call 226; refine (eqDiff_self x _).mono ?_; rintro e w2 ⟨rfl, hb2⟩))
      all_goals
        have hb3 := below_after hb.drew hb2
        clear hb2
        go_wp2_with fail
        go_roundw
        case rel => exact ⟨k + 1, by omega, by go_num, hb3⟩
        case measure => simp [intOf]; omega
    · go_wp2
      go_ret
      exact ⟨rfl, hb⟩
set_option maxRecDepth 100000 in
theorem eqBackup_eq (f t : ByteArray) (ch sm : Int) (A B : Option Addr) (c d : Nat) (xs : List Df) (w : World) (hx : Rd w w.heap.size A (flat encD xs)) (hy : Rd w w.heap.size B (flat encD xs)) (hl : xs.length ≤ 1048576) :
    Calls Try.prog 83 #[bkV f t ch A xs.length c sm, bkV f t ch B xs.length d sm] w fun e w' => e = .returned (.bool true) ∧ Below w.heap.size w w' := by
  have HB : ∀ W : World, Below w.heap.size w W → Calls Try.prog 164 #[.slice A xs.length c, .slice B xs.length d] W fun e w' => e = .returned (.bool true) ∧ Below W.heap.size W w' := fun W hb => eqDiffS_eq A B c d xs W (hx.next hb) (hy.next hb) hl
  have HB' := Lib.hid HB
  clear HB hx hy
  have hbe : Below w.heap.size w ((w.alloc (.cells #[.string f, .string t, .int .i64 ch, .slice A xs.length c, .int .i64 sm] 86)).alloc (.cells #[.string f, .string t, .int .i64 ch, .slice B xs.length d, .int .i64 sm] 86)) := by repeat (first | exact Below.refl _ _ | assumption | refine Below.drew ?_ | refine below_drewN ?_ _ | refine Below.setCell ?_ (by first | exact Nat.le_refl _ | exact Below.size (by assumption) | (simp; done) | (simp; omega) | omega) _ | refine Below.alloc ?_ (by first | exact Nat.le_refl _ | exact Below.size (by assumption) | (simp; done) | (simp; omega) | omega) _)
  have HBE := Lib.hid hbe
  clear hbe
  go_enter Try.func83, Try.ntmps83
  go_wp2_with fail
  refine (HB'.out _ HBE.out).mono ?_
  rintro e w2 ⟨rfl, hb2⟩
  have h4 : w2.cell? ⟨w.heap.size, 4, none⟩ = some (.int .i64 sm) := (hb2.cell (by show w.heap.size < _; simp; omega)).trans (by simp [go_sem])
  have h5 : w2.cell? ⟨w.heap.size + 1, 4, none⟩ = some (.int .i64 sm) := (hb2.cell (by show w.heap.size + 1 < _; simp)).trans (by simp [go_sem])
  have HB3 := Lib.hid (below_after HBE.out hb2)
  clear hb2
  go_wp2_with fail
  go_ret
  exact ⟨rfl, HB3.out⟩
end Go.Proofs.Ytlfnpnkpjdmonaa
namespace Go.Proofs.Ytlfnpnkpjdmonaa
open Go.RowKit

/-! ### the law's marks in a list of differences -/
def markAt (k : Int) : List Value := [.string (mkT k), .string (mkT (k + 1)), .string (mkT (k + 1 + 1)), .bool ((k + 1 + 1 + 1) % 3 == 0), .bool ((k + 1 + 1 + 1 + 1) % 3 == 0)]
def Marked (k : Int) (j : Nat) (cs : List Value) : Prop := ∀ i, i < j → ∀ o, o < 5 → cs[i * 5 + o]? = (markAt (k + 5 * i))[o]?
theorem Marked.step {k : Int} {j : Nat} {cs : List Value} (h : Marked k j cs) (hl : j * 5 + 5 ≤ cs.length) : Marked k (j + 1) (((((cs.set (j * 5) (.string (mkT (k + 5 * j)))).set (j * 5 + 1) (.string (mkT (k + 5 * j + 1)))).set (j * 5 + 1 + 1) (.string (mkT (k + 5 * j + 1 + 1)))).set (j * 5 + 3) (.bool ((k + 5 * j + 1 + 1 + 1) % 3 == 0))).set (j * 5 + 4) (.bool ((k + 5 * j + 1 + 1 + 1 + 1) % 3 == 0))) := by
  intro i hi o ho
  by_cases e : i = j
  · subst e
    have ho5 : o = 0 ∨ o = 1 ∨ o = 2 ∨ o = 3 ∨ o = 4 := by omega
    rcases ho5 with rfl | rfl | rfl | rfl | rfl <;> simp [List.getElem?_set, markAt] <;> first | omega | (rw [if_neg (by omega), if_pos (by omega)])
  · rw [List.getElem?_set_ne (by omega), List.getElem?_set_ne (by omega), List.getElem?_set_ne (by omega), List.getElem?_set_ne (by omega), List.getElem?_set_ne (by omega)]
    exact h i (by omega) o ho
set_option maxRecDepth 100000 in
set_option maxHeartbeats 4000000 in
theorem markDiffS_any (base : Nat) (v : Value) (n : Nat) (xs : List Value) (k : Int) (w : World) (hv : w.ownsRow base 145 5 v n xs) (hl : n ≤ 1048576) (h0 : 0 ≤ k) (h1 : k ≤ 17592186044416) :
    Calls Try.prog 162 #[v, .int .i64 k] w fun e w' => e = .returned (.int .i64 (k + 5 * n)) ∧ (∃ cs, w'.ownsRow base 145 5 v n cs ∧ Marked k n cs) ∧ w.grownBy w' v.ownBlock := by
  rcases hv.2 with ⟨rfl, rfl⟩ | ⟨g, cap, cur, rfl, hbase, hg, hc⟩
  · go_enter Try.func162, Try.ntmps162
    go_wp2
    go_loopw [1, 5] (fun l i wr => i = .int .i64 0 ∧ l = .int .i64 k ∧ wr = w) (fun _ i _ => 0)
    case atStart => exact ⟨rfl, rfl, rfl⟩
    case round =>
      obtain ⟨rfl, rfl, rfl⟩ := hrel
      go_wp2
      go_ret
      exact ⟨ret_i (by omega), ⟨xs, hv, fun i hi => by omega⟩, World.grownBy.refl _ _⟩
  · have HV := Lib.hid hv
    clear hv hc hg
    go_enter Try.func162, Try.ntmps162
    go_wp2
    go_loopw [1, 5] (fun l i wr => ∃ (j : Nat) (cs : List Value), j ≤ n ∧ i = .int .i64 j ∧ l = .int .i64 (k + 5 * j) ∧ wr.ownsRow base 145 5 (.slice (some ⟨g, 0, none⟩) n cap) n cs ∧ Marked k j cs ∧ w.grownBy wr (some g)) (fun _ i _ => n - (intOf i).toNat)
    case atStart => exact ⟨0, xs, Nat.zero_le _, rfl, by simp, HV.out, fun i hi => by omega, World.grownBy.refl _ _⟩
    case round =>
      obtain ⟨j, cs, hj, rfl, rfl, ho, hmk, hgr⟩ := hrel
      by_cases hlt : j < n
      · have HO := Lib.hid ho
        have HGR := Lib.hid hgr
        clear ho hgr
        have HLN : Hid (cs.length = n * 5) := HO.out.1
        have HMK := Lib.hid hmk
        clear hmk
        have HG0 : Hid (w.grownBy wr (some g)) := HGR.out
        have HO0 := HO
        go_wp2_with fail
        refine (markText_any _ _ (by omega)).mono ?_
        rintro e w1 ⟨rfl, hb1⟩
        have ho1 := own_below HO0.out hb1
        have hln : j * 5 + 5 ≤ n * 5 := by omega
        have hle : _ = n * 5 := ho1.1
        have HG1 : Hid (w.grownBy (w1.setCell ⟨g, j * 5, none⟩ (.string (mkT (k + 5 * j)))) (some g)) := grown_after (grown_after HG0.out (grown_below hb1 _)) (grown_set _ _ _ _)
        have HO1 := Lib.hid (ho1.stored (j * 5) (.string (mkT (k + 5 * j)))).1
        have f0 : w1.frozen? ⟨g, j * 5, none⟩ = false := ho1.frozenAt (j * 5)
        have hcu : ∃ u, w1.cell? ⟨g, j * 5, none⟩ = some u := by
          rw [ho1.cellAt (j * 5) (by omega)]
          exact ⟨_, List.getElem?_eq_getElem (by omega)⟩
        obtain ⟨u0, c0⟩ := hcu
        clear ho1 hb1 hln hle HO0 HG0
        go_wp2_with fail
        refine (markText_any _ _ (by omega)).mono ?_
        rintro e w2 ⟨rfl, hb2⟩
        have ho2 := own_below HO1.out hb2
        have hln : j * 5 + 5 ≤ n * 5 := by omega
        have hle : _ = n * 5 := ho2.1
        have HG2 : Hid (w.grownBy (w2.setCell ⟨g, j * 5 + 1, none⟩ (.string (mkT (k + 5 * j + 1)))) (some g)) := grown_after (grown_after HG1.out (grown_below hb2 _)) (grown_set _ _ _ _)
        have HO2 := Lib.hid (ho2.stored (j * 5 + 1) (.string (mkT (k + 5 * j + 1)))).1
        have f1 : w2.frozen? ⟨g, j * 5 + 1, none⟩ = false := ho2.frozenAt (j * 5 + 1)
        have hcu : ∃ u, w2.cell? ⟨g, j * 5 + 1, none⟩ = some u := by
          rw [ho2.cellAt (j * 5 + 1) (by omega)]
          exact ⟨_, List.getElem?_eq_getElem (by omega)⟩
        obtain ⟨u1, c1⟩ := hcu
        clear ho2 hb2 hln hle HO1 HG1
        go_wp2_with fail
        refine (markText_any _ _ (by omega)).mono ?_
        rintro e w3 ⟨rfl, hb3⟩
        have ho3 := own_below HO2.out hb3
        have hln : j * 5 + 5 ≤ n * 5 := by omega
        have hle : _ = n * 5 := ho3.1
        have HG3 : Hid (w.grownBy (w3.setCell ⟨g, j * 5 + 1 + 1, none⟩ (.string (mkT (k + 5 * j + 1 + 1)))) (some g)) := grown_after (grown_after HG2.out (grown_below hb3 _)) (grown_set _ _ _ _)
        have HO3 := Lib.hid (ho3.stored (j * 5 + 1 + 1) (.string (mkT (k + 5 * j + 1 + 1)))).1
        have f2 : w3.frozen? ⟨g, j * 5 + 1 + 1, none⟩ = false := ho3.frozenAt (j * 5 + 1 + 1)
        have hcu : ∃ u, w3.cell? ⟨g, j * 5 + 1 + 1, none⟩ = some u := by
          rw [ho3.cellAt (j * 5 + 1 + 1) (by omega)]
          exact ⟨_, List.getElem?_eq_getElem (by omega)⟩
        obtain ⟨u2, c2⟩ := hcu
        have f3 : w3.frozen? ⟨g, j * 5 + 1 + 1 + 1, none⟩ = false := ho3.frozenAt (j * 5 + 1 + 1 + 1)
        have hcu : ∃ u, w3.cell? ⟨g, j * 5 + 1 + 1 + 1, none⟩ = some u := by
          rw [ho3.cellAt (j * 5 + 1 + 1 + 1) (by omega)]
          exact ⟨_, List.getElem?_eq_getElem (by omega)⟩
        obtain ⟨u3, c3⟩ := hcu
        have f4 : w3.frozen? ⟨g, j * 5 + 1 + 1 + 1 + 1, none⟩ = false := ho3.frozenAt (j * 5 + 1 + 1 + 1 + 1)
        have hcu : ∃ u, w3.cell? ⟨g, j * 5 + 1 + 1 + 1 + 1, none⟩ = some u := by
          rw [ho3.cellAt (j * 5 + 1 + 1 + 1 + 1) (by omega)]
          exact ⟨_, List.getElem?_eq_getElem (by omega)⟩
        obtain ⟨u4, c4⟩ := hcu
        clear ho3 hb3 hln hle HO2 HG2
        go_wp2_with fail
        go_roundw
        case rel =>
          have hs4 := HO3.out.stored (j * 5 + 3) (.bool ((k + 5 * j + 1 + 1 + 1) % 3 == 0))
          have hs5 := hs4.1.stored (j * 5 + 4) (.bool ((k + 5 * j + 1 + 1 + 1 + 1) % 3 == 0))
          exact ⟨j + 1, _, by omega, by go_num, by go_num, hs5.1, HMK.out.step (by have := HLN.out; omega), grown_after (grown_after HG3.out hs4.2) hs5.2⟩
        case measure => simp [intOf]; omega
      · have HO := Lib.hid ho
        clear ho
        have hjn : j = n := by omega
        subst hjn
        go_wp2
        go_ret
        exact ⟨ret_i (by omega), ⟨cs, HO.out, hmk⟩, hgr⟩
end Go.Proofs.Ytlfnpnkpjdmonaa
namespace Go.Proofs.Ytlfnpnkpjdmonaa
open Go.RowKit

/-! ### the law's marks: held, and at backups -/
set_option maxRecDepth 100000 in
set_option maxHeartbeats 4000000 in
theorem heldDiffS_any (base : Nat) (v : Value) (n : Nat) (xs : List Value) (k : Int) (w : World) (hv : w.ownsRow base 145 5 v n xs) (hm : Marked k n xs) (hl : n ≤ 1048576) (h0 : 0 ≤ k) (h1 : k ≤ 1048576) :
    Calls Try.prog 165 #[v, .int .i64 k] w fun e w' => e = .returned (.int .i64 (k + 5 * n)) ∧ Below w.heap.size w w' := by
  rcases hv.2 with ⟨rfl, rfl⟩ | ⟨g, cap, cur, rfl, hbase, hg, hc⟩
  · go_enter Try.func165, Try.ntmps165
    go_wp2
    go_loopw [1, 5] (fun l i wr => i = .int .i64 0 ∧ l = .int .i64 k ∧ wr = w) (fun _ i _ => 0)
    case atStart => exact ⟨rfl, rfl, rfl⟩
    case round =>
      obtain ⟨rfl, rfl, rfl⟩ := hrel
      go_wp2
      go_ret
      exact ⟨ret_i (by omega), Below.refl _ _⟩
  · have hgl : g < w.heap.size := (Array.getElem?_eq_some_iff.1 hg).1
    have HV := Lib.hid hv
    have HM := Lib.hid hm
    clear hv hc hg hm
    go_enter Try.func165, Try.ntmps165
    go_wp2
    go_loopw [1, 5] (fun l i wr => ∃ j : Nat, j ≤ n ∧ i = .int .i64 j ∧ l = .int .i64 (k + 5 * j) ∧ Below w.heap.size w wr) (fun _ i _ => n - (intOf i).toNat)
    case atStart => exact ⟨0, Nat.zero_le _, rfl, by simp, Below.refl _ _⟩
    case round =>
      obtain ⟨j, hj, rfl, rfl, hb⟩ := hrel
      by_cases hlt : j < n
      · have hs := hb.size
        have ho := own_below HV.out hb
        have hln : xs.length = n * 5 := ho.1
        have hm := HM.out j hlt
        have c0 : wr.cell? ⟨g, j * 5, none⟩ = some (.string (mkT (k + 5 * j))) := (ho.cellAt (j * 5) (by omega)).trans (hm 0 (by omega))
        have c1 : wr.cell? ⟨g, j * 5 + 1, none⟩ = some (.string (mkT (k + 5 * j + 1))) := (ho.cellAt (j * 5 + 1) (by omega)).trans (hm 1 (by omega))
        have c2 : wr.cell? ⟨g, j * 5 + 1 + 1, none⟩ = some (.string (mkT (k + 5 * j + 1 + 1))) := (ho.cellAt (j * 5 + 2) (by omega)).trans (hm 2 (by omega))
        have c3 : wr.cell? ⟨g, j * 5 + 1 + 1 + 1, none⟩ = some (.bool ((k + 5 * j + 1 + 1 + 1) % 3 == 0)) := (ho.cellAt (j * 5 + 3) (by omega)).trans (hm 3 (by omega))
        have c4 : wr.cell? ⟨g, j * 5 + 1 + 1 + 1 + 1, none⟩ = some (.bool ((k + 5 * j + 1 + 1 + 1 + 1) % 3 == 0)) := (ho.cellAt (j * 5 + 4) (by omega)).trans (hm 4 (by omega))
        clear ho hln hm
        have hgw : g < wr.heap.size := by omega
        have HC : Hid (∀ W : World, Below wr.heap.size wr W → W.cell? ⟨g, j * 5, none⟩ = some (.string (mkT (k + 5 * j))) ∧ W.cell? ⟨g, j * 5 + 1, none⟩ = some (.string (mkT (k + 5 * j + 1))) ∧ W.cell? ⟨g, j * 5 + 1 + 1, none⟩ = some (.string (mkT (k + 5 * j + 1 + 1))) ∧ W.cell? ⟨g, j * 5 + 1 + 1 + 1, none⟩ = some (.bool ((k + 5 * j + 1 + 1 + 1) % 3 == 0)) ∧ W.cell? ⟨g, j * 5 + 1 + 1 + 1 + 1, none⟩ = some (.bool ((k + 5 * j + 1 + 1 + 1 + 1) % 3 == 0))) := fun W hB => ⟨(hB.cell hgw).trans c0, (hB.cell hgw).trans c1, (hB.cell hgw).trans c2, (hB.cell hgw).trans c3, (hB.cell hgw).trans c4⟩
        have HB := Lib.hid hb
        clear hb
        clear c1 c2 c3 c4
        go_wp2_with fail
        go_region_held3 (fun w' => w'.cell? ⟨g, j * 5, none⟩ = some (.string (mkT (k + 5 * j))))
          ((first | assumption | (refine (HC.out _ ?_).1; exact hb2)))
          (first | (go_at_call 110; refine (markText_any _ _ (by omega)).mono ?_; rintro e w2 ⟨rfl, hb2'⟩; have hb2 : Below wr.heap.size wr w2 := Below.trans (by first | exact Below.refl _ _ | exact (Below.refl _ _).drew) (hb2'.mono (by first | exact Nat.le_refl _ | (simp; done)))))
        all_goals
          have HB2 := Lib.hid hb2
          obtain ⟨-, d1, -, -, -⟩ := HC.out _ HB2.out
          clear hb2' hb2 c0
          go_wp2_with fail
          go_region_held3 (fun w' => w'.cell? ⟨g, j * 5 + 1, none⟩ = some (.string (mkT (k + 5 * j + 1))))
            ((first | assumption | (refine (HC.out _ ?_).2.1; exact hb3)))
            (first | (go_at_call 110; refine (markText_any _ _ (by omega)).mono ?_; rintro e w3 ⟨rfl, hb3'⟩; have hb3 : Below wr.heap.size wr w3 := HB2.out.drew.trans (hb3'.mono (by first | exact HB2.out.size | exact HB2.out.drew.size))))
          all_goals
            have HB3 := Lib.hid hb3
            obtain ⟨-, -, d2, -, -⟩ := HC.out _ HB3.out
            clear hb3' hb3 d1
            go_wp2_with fail
            go_region_held3 (fun w' => w'.cell? ⟨g, j * 5 + 1 + 1, none⟩ = some (.string (mkT (k + 5 * j + 1 + 1))))
              ((first | assumption | (refine (HC.out _ ?_).2.2.1; exact hb4)))
              (first | (go_at_call 110; refine (markText_any _ _ (by omega)).mono ?_; rintro e w4 ⟨rfl, hb4'⟩; have hb4 : Below wr.heap.size wr w4 := HB3.out.drew.trans (hb4'.mono (by first | exact HB3.out.size | exact HB3.out.drew.size))))
            all_goals
              obtain ⟨-, -, -, d3, d4⟩ := HC.out _ hb4
              have HB4 := Lib.hid (HB.out.trans (hb4.mono hs))
              clear hb4' hb4 d2
              go_wp2_with fail
              go_roundw
              case rel => exact ⟨j + 1, by omega, by go_num, by go_num, HB4.out⟩
              case measure => simp [intOf]; omega
      · have hjn : j = n := by omega
        subst hjn
        go_wp2
        go_ret
        exact ⟨ret_i (by omega), hb⟩
set_option maxRecDepth 100000 in
theorem markBackup_any (f t : ByteArray) (ch sm : Int) (D : Option Addr) (n dc base : Nat) (xs : List Value) (k : Int) (w : World) (hv : w.ownsRow base 145 5 (.slice D n dc) n xs) (hl : n ≤ 1048576) (h0 : 0 ≤ k) (h1 : k ≤ 1048576) :
    Calls Try.prog 84 #[bkV f t ch D n dc sm, .int .i64 k] w fun e w' => e = .returned (.int .i64 (k + 5 * n)) ∧ (∃ cs, w'.ownsRow base 145 5 (.slice D n dc) n cs ∧ Marked k n cs) ∧ w.grownBy w' (Value.slice D n dc).ownBlock := by
  have hbe : Below w.heap.size w (w.alloc (.cells #[.string f, .string t, .int .i64 ch, .slice D n dc, .int .i64 sm] 86)) := by repeat (first | exact Below.refl _ _ | assumption | refine Below.drew ?_ | refine below_drewN ?_ _ | refine Below.setCell ?_ (by first | exact Nat.le_refl _ | exact Below.size (by assumption) | (simp; done) | (simp; omega) | omega) _ | refine Below.alloc ?_ (by first | exact Nat.le_refl _ | exact Below.size (by assumption) | (simp; done) | (simp; omega) | omega) _)
  have HBE := Lib.hid hbe
  have HC := Lib.hid (markDiffS_any base (.slice D n dc) n xs k _ (own_below hv hbe) hl h0 (by omega))
  clear hbe hv
  go_enter Try.func84, Try.ntmps84
  go_wp2_with fail
  refine HC.out.mono ?_
  rintro e w2 ⟨rfl, ho, hgr⟩
  have HG := Lib.hid (grown_after (grown_below HBE.out _) hgr)
  have HO := Lib.hid ho
  clear hgr ho
  go_wp2_with fail
  go_ret
  exact ⟨rfl, HO.out, HG.out⟩
set_option maxRecDepth 100000 in
theorem heldBackup_any (f t : ByteArray) (ch sm : Int) (D : Option Addr) (n dc base : Nat) (xs : List Value) (k : Int) (w : World) (hv : w.ownsRow base 145 5 (.slice D n dc) n xs) (hm : Marked k n xs) (hl : n ≤ 1048576) (h0 : 0 ≤ k) (h1 : k ≤ 1048576) :
    Calls Try.prog 85 #[bkV f t ch D n dc sm, .int .i64 k] w fun e w' => e = .returned (.int .i64 (k + 5 * n)) ∧ Below w.heap.size w w' := by
  have hbe : Below w.heap.size w (w.alloc (.cells #[.string f, .string t, .int .i64 ch, .slice D n dc, .int .i64 sm] 86)) := by repeat (first | exact Below.refl _ _ | assumption | refine Below.drew ?_ | refine below_drewN ?_ _ | refine Below.setCell ?_ (by first | exact Nat.le_refl _ | exact Below.size (by assumption) | (simp; done) | (simp; omega) | omega) _ | refine Below.alloc ?_ (by first | exact Nat.le_refl _ | exact Below.size (by assumption) | (simp; done) | (simp; omega) | omega) _)
  have HBE := Lib.hid hbe
  have HC := Lib.hid (heldDiffS_any base (.slice D n dc) n xs k _ (own_below hv hbe) hm hl h0 h1)
  clear hbe hv
  go_enter Try.func85, Try.ntmps85
  go_wp2_with fail
  refine HC.out.mono ?_
  rintro e w2 ⟨rfl, hb2⟩
  have HB := Lib.hid (below_after HBE.out hb2)
  clear hb2
  go_wp2_with fail
  go_ret
  exact ⟨rfl, HB.out⟩
/-! a backup that is read has at most 255 differences -/
theorem rdDs_len : ∀ {n : Nat} {l : List UInt8} {q : List Df × List UInt8}, rdDs n l = some q → q.1.length = n
  | 0, l, q, h => by rw [rdDs] at h; injection h with h; subst h; rfl
  | n + 1, l, q, h => by
    rw [rdDs] at h
    split at h
    · rw [Option.map_eq_some_iff] at h
      obtain ⟨r, hr, rfl⟩ := h
      show (_ :: r.1).length = n + 1
      rw [List.length_cons, rdDs_len hr]
    · cases h
theorem be_one (l : List UInt8) : be (l.take 1) ≤ 255 := by
  cases l with
  | nil => simp [be]
  | cons c r =>
    rw [show (c :: r).take 1 = [c] from rfl, be_single]
    have := c.toNat_lt
    omega
theorem P0_ds {t : List UInt8} (m : Bq) (h : P0of t = some m) : m.ds.length ≤ 255 := by
  unfold P0of at h
  split at h
  · unfold rdBk at h
    split at h
    · cases h
    · split at h
      · cases h
      · split at h
        · cases h
        · split at h
          · cases h
          · rename_i q hq
            split at h
            · injection h with h
              subst h
              show q.1.length ≤ 255
              rw [rdDs_len hq]
              exact be_one _
            · cases h
  · cases h
theorem finM_ds {o : Option Bq} (h : ∀ m, o = some m → m.ds.length ≤ 255) : (finM o).1.ds.length ≤ 255 := by
  cases o with
  | none => simp [finM, bkZero]
  | some m =>
    show (if m.ok = true then (if m.lk = m.link then (m, (0 : Int)) else (bkZero, 8)) else (bkZero, 3)).1.ds.length ≤ 255
    split
    · split
      · exact h m rfl
      · simp [bkZero]
    · simp [bkZero]
theorem rdAll_ds (xs : List UInt8) : (rdAll xs).1.ds.length ≤ 255 := by
  unfold rdAll
  split
  · simp [bkZero]
  · exact finM_ds (fun m hm => P0_ds m hm)
end Go.Proofs.Ytlfnpnkpjdmonaa
