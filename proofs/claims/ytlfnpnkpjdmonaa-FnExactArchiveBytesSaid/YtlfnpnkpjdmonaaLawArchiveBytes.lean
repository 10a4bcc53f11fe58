/- For every list of backups within the law's own bound of sizes, the program's ArchiveBytes answers as the reference's: the same texts, the same code; it writes into no argument, and its answers are new memory. There are no conditions of ours. -/
import Derived.Test.YtlfnpnkpjdmonaaFacts
import Derived.Test.YtlfnpnkpjdmonaaOpen
import Derived.Deep.Slices
import Derived.Deep.Fields
import Derived.ChangeSame
import Derived.Test.YtlfnpnkpjdmonaaArch
import Derived.ProofKit
import Derived.OpenShut
import Derived.ShutString
import Derived.ChangeOld
import Derived.Carry
import Derived.SizedLaws
set_option linter.unusedVariables false
set_option linter.unusedSimpArgs false
namespace Go.Proofs.Ytlfnpnkpjdmonaa.lawArchive
open Go.ChangeShapes Go.WideShapes Go.ChangeAt Go.RowKit Go.Joins Go.Deep
open Go.ChangeMaps (open_string shut_string)

/-! ### arguments that are slices of structs, opened -/
theorem choose_list {α : Type} {P : Nat → α → Prop} : ∀ n : Nat, (∀ i, i < n → ∃ x, P i x) → ∃ l : List α, l.length = n ∧ ∀ i (h : i < l.length), P i l[i]
  | 0, _ => ⟨[], rfl, fun i h => by simp at h⟩
  | n + 1, h => by
    obtain ⟨l, hl, hp⟩ := choose_list n fun i hi => h i (by omega)
    obtain ⟨x, hx⟩ := h n (by omega)
    refine ⟨l ++ [x], by simp [hl], fun i hi => ?_⟩
    rcases Nat.lt_or_ge i l.length with h1 | h1
    · rw [List.getElem_append_left h1]; exact hp i h1
    · obtain rfl : i = n := by simp at hi; omega
      rw [List.getElem_append_right h1]
      simpa [hl] using hx
section
variable {H : Type} {enc : TypeId × Value → H} {P : Program} {w : World} {base : Nat} {spare : Nat → Bool} {held : Bool}
theorem open_slice_fields {t e : TypeId} {fs : Array Field} {fuel : Nat} {cs : List Value} {x : DataW H × List MemPlace} (ht : P.underlying t = some (.slice e)) (he : P.underlying e = some (.struct fs))
    (hone : oneCellFields P fs = true) (hC : P.cellsOf e = fs.size) (h : DataW.trod enc P w base spare held fuel t cs = some x) :
    (cs = [.slice none 0 0] ∧ x = (.nil, [])) ∨
    ∃ (a : Addr) (len cap m : Nat), cs = [.slice (some a) len cap] ∧ len ≤ cap ∧ cap ≤ maxLen ∧ m = (if spare a.block then cap else len) ∧
      ∀ i, i < m → ∃ (n : Nat),
        ∀ (j : Nat) (f : Field), fs[j]? = some f → ∃ (v : Value) (y : DataW H × List MemPlace), w.cell? (a.add (i * fs.size + j)) = some v ∧ DataW.trod enc P w base spare held n f.type [v] = some y := by
  rcases open_slice ht h with h0 | ⟨a, len, cap, m, n, D, Pl, hcs, hb, hl, hm, hmm, hx, hi⟩
  · exact .inl h0
  · refine .inr ⟨a, len, cap, m, hcs, hl, hm, hmm, fun i him => ?_⟩
    obtain ⟨cs', hc, ht'⟩ := hi i him
    rw [hC] at hc
    obtain ⟨ys, n', hn', hy, hlen, hyl, hf⟩ := DataW.trod_struct he ht'
    obtain ⟨_, hcl, hat⟩ := World.cells?_some hc
    refine ⟨n', fun j f hj => ?_⟩
    obtain ⟨ho, hk⟩ := hone_of hone j f hj
    have hjl : j < fs.size := (Array.getElem?_eq_some_iff.1 hj).1
    have hcell := hat j hjl
    have hv : cs'[j]? = some (cs'[j]'(by omega)) := List.getElem?_eq_getElem (by omega)
    have h1 := hf j f hj
    rw [ho, hk] at h1
    have hone' : (cs'.drop j).take 1 = [cs'[j]'(by omega)] := by
      rw [List.drop_eq_getElem_cons (by omega)]
      rfl
    rw [hone'] at h1
    have hys : ys[j]? = some (ys[j]'(by omega)) := List.getElem?_eq_getElem (by omega)
    refine ⟨_, _, ?_, h1.trans hys⟩
    rw [← Go.Deep.add_add, hcell, hv]
theorem open_rows {α : Type} {en : α → List Value} {good : α → Prop} {t e : TypeId} {fs : Array Field} {fuel : Nat} {v : Value} {x : DataW H × List MemPlace} (ht : P.underlying t = some (.slice e)) (he : P.underlying e = some (.struct fs))
    (hone : oneCellFields P fs = true) (hC : P.cellsOf e = fs.size) (hpos : 0 < fs.size)
    (hel : ∀ (n : Nat) (g : Nat → Value), (∀ (j : Nat) (f : Field), fs[j]? = some f → ∃ y, DataW.trod enc P w 0 (fun _ => true) held n f.type [g j] = some y) → ∃ x : α, good x ∧ (en x).length = fs.size ∧ ∀ j u, (en x)[j]? = some u → g j = u)
    (hsz : ∀ x, (en x).length = fs.size)
    (h : DataW.trod enc P w 0 (fun _ => true) held fuel t [v] = some x) :
    ∃ (A : Option Addr) (c : Nat) (xs : List α), v = .slice A xs.length c ∧ Rd w w.heap.size A (flat en xs) ∧ xs.length ≤ maxLen ∧ ∀ x ∈ xs, good x := by
  rcases open_slice_fields ht he hone hC h with ⟨hcs, _⟩ | ⟨a, len, cap, m, hcs, hl, hm, hmm, hi⟩
  · simp only [List.cons.injEq, and_true] at hcs
    exact ⟨none, 0, [], hcs, Rd.nil _ _ _, Nat.zero_le _, by simp⟩
  · simp only [List.cons.injEq, and_true] at hcs
    simp only [if_true] at hmm
    subst hmm
    have hex : ∀ i, i < len → ∃ x : α, good x ∧ ∀ j u, (en x)[j]? = some u → w.cell? (a.add (i * fs.size + j)) = some u := by
      intro i hil
      obtain ⟨n, hf⟩ := hi i (by omega)
      have hg : ∀ j, ∃ v : Value, ∀ f, fs[j]? = some f → w.cell? (a.add (i * fs.size + j)) = some v ∧ ∃ y, DataW.trod enc P w 0 (fun _ => true) held n f.type [v] = some y := by
        intro j
        cases hj : fs[j]? with
        | none => exact ⟨.bool false, fun f hf => by cases hf⟩
        | some f =>
          obtain ⟨v, y, h1, h2⟩ := hf j f hj
          exact ⟨v, fun f' hf' => by injection hf' with e; subst e; exact ⟨h1, y, h2⟩⟩
      obtain ⟨g, hg⟩ := Classical.axiomOfChoice hg
      obtain ⟨x, hx1, hx2, hx3⟩ := hel n g fun j f hj => (hg j f hj).2
      refine ⟨x, hx1, fun j u hu => ?_⟩
      have hjl : j < fs.size := by
        have := (List.getElem?_eq_some_iff.1 hu).1
        omega
      rw [← hx3 j u hu]
      exact (hg j fs[j] (Array.getElem?_eq_getElem hjl)).1
    obtain ⟨xs, hlen, hp⟩ := choose_list len hex
    refine ⟨some a, m, xs, by rw [hlen]; exact hcs, fun hne => ?_, by omega, fun x hx => ?_⟩
    · have hcell : ∀ j u, (flat en xs)[j]? = some u → w.cell? (a.add j) = some u := by
        intro j u hu
        have hj := (List.getElem?_eq_some_iff.1 hu).1
        rw [flat_length hsz] at hj
        have hq : j / fs.size < xs.length := by rw [Nat.div_lt_iff_lt_mul hpos]; exact hj
        have hr : j % fs.size < fs.size := Nat.mod_lt _ hpos
        have hjj : j / fs.size * fs.size + j % fs.size = j := by have := Nat.div_add_mod j fs.size; rw [Nat.mul_comm] at this; exact this
        have hu2 : (en xs[j / fs.size])[j % fs.size]? = some u := by
          have hv : (en xs[j / fs.size])[j % fs.size]? = some ((en xs[j / fs.size])[j % fs.size]'(by rw [hsz]; exact hr)) := List.getElem?_eq_getElem _
          have h2 := flat_get hsz (List.getElem?_eq_getElem hq) hv
          rw [hjj, hu] at h2
          rw [hv, ← h2]
        have h3 := (hp _ hq).2 _ _ hu2
        rwa [hjj] at h3
      have hb : a.block < w.heap.size := by
        have hne' : 0 < (flat en xs).length := List.length_pos_iff.2 hne
        have h0 := hcell 0 _ (List.getElem?_eq_getElem hne')
        have := block_lt_of_cell h0
        rwa [add_block] at this
      exact ⟨a, rfl, hb, hcell⟩
    · obtain ⟨i, hi', rfl⟩ := List.mem_iff_getElem.1 hx
      exact (hp i hi').1
end


theorem cellsDiff : Try.prog.cellsOf 245 = 5 := by kernel_rfl
theorem cellsBackup : Try.prog.cellsOf 171 = 5 := by kernel_rfl
set_option maxRecDepth 100000 in
theorem open_diffs {H : Type} {enc : TypeId × Value → H} {W : World} {held : Bool} {n : Nat} {v : Value} {y : DataW H × List MemPlace} (h : DataW.trod enc Try.prog W 0 (fun _ => true) held n 169 [v] = some y) :
    ∃ (A : Option Addr) (c : Nat) (xs : List Df), v = .slice A xs.length c ∧ Rd W W.heap.size A (flat encD xs) ∧ xs.length ≤ maxLen ∧ ∀ p ∈ xs, DG p := by
  refine open_rows (en := encD) Try.underlying169 Try.underlying245 (by kernel_rfl) cellsDiff (by simp) (fun n g hg => ?_) (fun _ => rfl) h
  obtain ⟨y0, h0⟩ := hg 0 _ rfl
  obtain ⟨y1, h1⟩ := hg 1 _ rfl
  obtain ⟨y2, h2⟩ := hg 2 _ rfl
  obtain ⟨y3, h3⟩ := hg 3 _ rfl
  obtain ⟨y4, h4⟩ := hg 4 _ rfl
  obtain ⟨s0, e0, _, l0⟩ := DataW.trod_string Try.underlying9 h0
  obtain ⟨s1, e1, _, l1⟩ := DataW.trod_string Try.underlying9 h1
  obtain ⟨s2, e2, _, l2⟩ := DataW.trod_string Try.underlying9 h2
  obtain ⟨b3, e3, _⟩ := DataW.trod_bool Try.underlying4 h3
  obtain ⟨b4, e4, _⟩ := DataW.trod_bool Try.underlying4 h4
  simp only [List.cons.injEq, and_true] at e0 e1 e2 e3 e4
  refine ⟨⟨s0, s1, s2, b3, b4⟩, ⟨l0, l1, l2⟩, rfl, fun j u hu => ?_⟩
  match j, hu with
  | 0, hu => simp [encD] at hu; rw [e0, hu]
  | 1, hu => simp [encD] at hu; rw [e1, hu]
  | 2, hu => simp [encD] at hu; rw [e2, hu]
  | 3, hu => simp [encD] at hu; rw [e3, hu]
  | 4, hu => simp [encD] at hu; rw [e4, hu]
set_option maxRecDepth 100000 in
theorem open_backups {H : Type} {enc : TypeId × Value → H} {W : World} {held : Bool} {n : Nat} {v : Value} {y : DataW H × List MemPlace} (h : DataW.trod enc Try.prog W 0 (fun _ => true) held n 101 [v] = some y) :
    ∃ (A : Option Addr) (c : Nat) (xs : List Bk), v = .slice A xs.length c ∧ BRd W W.heap.size A xs ∧ xs.length ≤ maxLen ∧ ∀ p ∈ xs, BkG p := by
  obtain ⟨A, c, xs, h1, h2, h3, h4⟩ := open_rows (good := fun k : Bk => BkG k ∧ Rd W W.heap.size k.D (flat encD k.ds)) (en := encBk) Try.underlying101 Try.underlying171 (by kernel_rfl) cellsBackup (by simp) (fun n g hg => by
    obtain ⟨y0, h0⟩ := hg 0 _ rfl
    obtain ⟨y1, h1⟩ := hg 1 _ rfl
    obtain ⟨y2, h2⟩ := hg 2 _ rfl
    obtain ⟨y3, h3⟩ := hg 3 _ rfl
    obtain ⟨y4, h4⟩ := hg 4 _ rfl
    obtain ⟨s0, e0, _, l0⟩ := DataW.trod_string Try.underlying9 h0
    obtain ⟨s1, e1, _, l1⟩ := DataW.trod_string Try.underlying9 h1
    obtain ⟨z, e2, _⟩ := DataW.trod_int Try.underlying3 h2
    obtain ⟨A, c, ds, e3, hr, hl, hs⟩ := open_diffs h3
    obtain ⟨z4, e4, _⟩ := DataW.trod_int Try.underlying3 h4
    simp only [List.cons.injEq, and_true] at e0 e1 e2 e4
    refine ⟨⟨s0, s1, z, A, ds, c, z4⟩, ⟨⟨l0, l1, hl, hs⟩, hr⟩, rfl, fun j u hu => ?_⟩
    match j, hu with
    | 0, hu => simp [encBk] at hu; rw [e0, hu]
    | 1, hu => simp [encBk] at hu; rw [e1, hu]
    | 2, hu => simp [encBk] at hu; rw [e2, hu]
    | 3, hu => simp [encBk] at hu; rw [e3, hu]
    | 4, hu => simp [encBk] at hu; rw [e4, hu]) (fun _ => rfl) h
  exact ⟨A, c, xs, h1, ⟨h2, fun k hk => (h4 k hk).2⟩, h3, fun k hk => (h4 k hk).1⟩
theorem eqStrs {b1 b2 : Nat} {u v : Value} {xs : List ByteArray} {w : World} (hu : w.ownsRow b1 9 1 u xs.length (xs.map Value.string)) (hv : w.ownsRow b2 9 1 v xs.length (xs.map Value.string)) (hl : xs.length ≤ maxLen) :
    Calls Try.prog 33 #[u, v] w fun e w' => e = .returned (.bool true) ∧ Below w.heap.size w w' := by
  obtain ⟨A, c, rfl, _⟩ := own_form hu
  obtain ⟨B, d, rfl, _⟩ := own_form hv
  have h := eqStringS_any A B c d xs xs w (Rd.own hu) (Rd.own hv) hl hl
  simpa using h
theorem heldStrs {b1 : Nat} {u : Value} {n : Nat} {k : Int} {w : World} (hu : w.ownsRow b1 9 1 u n (marks k n)) (hl : n ≤ 17592186044416) (h0 : 0 ≤ k) (h1 : k ≤ 17592186044416) :
    Calls Try.prog 37 #[u, .int .i64 k] w fun e w' => e = .returned (.int .i64 (k + n)) ∧ Below w.heap.size w w' := by
  obtain ⟨A, c, rfl, _⟩ := own_form hu
  exact heldStringS_any A c n k w (Rd.own hu) hl h0 h1


/-- the backups that the law goes on with -/
def AG (ms : List Bk) : Prop := ms.length ≤ 1048576 ∧ ∀ m ∈ ms, BkG m ∧ BkSm m
theorem AG.like {ms ys : List Bk} (h : AG ms) (hd : ys.map Bk.data = ms.map Bk.data) : AG ys := by
  refine ⟨by rw [tbs_len hd]; exact h.1, fun y hy => ?_⟩
  have h1 : y.data ∈ ms.map Bk.data := by rw [← hd]; exact List.mem_map_of_mem hy
  obtain ⟨m, hm, he⟩ := List.mem_map.1 h1
  obtain ⟨hg, hs⟩ := h.2 m hm
  simp only [Bk.data, Prod.mk.injEq] at he
  obtain ⟨e1, e2, e3, e4, e5⟩ := he
  exact ⟨⟨by rw [← e1]; exact hg.fl, by rw [← e2]; exact hg.tl, by rw [← e4]; exact hg.dl, by rw [← e4]; exact hg.ds⟩, by unfold BkSm; rw [← e4]; exact hs⟩
def AP (rs : List ByteArray) (er : Int) (w : World) (e : Ending) (w' : World) : Prop := ∃ v, e = .returned (.tuple #[v, .int .i64 er]) ∧ w'.ownsRow w.heap.size 9 1 v rs.length (rs.map Value.string) ∧ Below w.heap.size w w'
theorem ap_of {ms ys : List Bk} {rs : List ByteArray} {er : Int} (hq : archM ms = (rs, er)) (hd : ys.map Bk.data = ms.map Bk.data) {w : World} {e : Ending} {w' : World} (h : ArchPost ys w e w') : AP rs er w e w' := by
  unfold ArchPost at h
  rw [archM_data hd, hq] at h
  exact h
theorem specA {ms ys : List Bk} {rs : List ByteArray} {er : Int} {base c : Nat} {B : Option Addr} {w : World} (hq : archM ms = (rs, er)) (hg : AG ms) (hd : ys.map Bk.data = ms.map Bk.data) (ho : BOwn w base B c ys) : Calls Try.prog 77 #[.slice B ms.length c] w (AP rs er w) := by
  rw [← tbs_len hd]
  exact (specArchive_any B c ys w ho.rd (hg.like hd).1 (hg.like hd).2).mono fun _ _ h => ap_of hq hd h
theorem implA {ms ys : List Bk} {rs : List ByteArray} {er : Int} {base c : Nat} {B : Option Addr} {w : World} (hq : archM ms = (rs, er)) (hg : AG ms) (hd : ys.map Bk.data = ms.map Bk.data) (ho : BOwn w base B c ys) : Calls Try.prog 79 #[.slice B ms.length c] w (AP rs er w) := by
  rw [← tbs_len hd]
  exact (implArchive_any base B c ys w ho (hg.like hd).1 (hg.like hd).2).mono fun _ _ h => ap_of hq hd h
theorem eqBs {ms xs ys : List Bk} {b1 b2 c d : Nat} {A B : Option Addr} {w : World} (hg : AG ms) (hx : xs.map Bk.data = ms.map Bk.data) (hy : ys.map Bk.data = ms.map Bk.data) (ho : BOwn w b1 A c xs) (ho' : BOwn w b2 B d ys) : Calls Try.prog 80 #[.slice A ms.length c, .slice B ms.length d] w fun e w' => e = .returned (.bool true) ∧ Below w.heap.size w w' :=
  eqBackupS_eq A B c d ms.length xs ys (tbs_len hx).symm (tbs_len hy).symm w ho.rd ho'.rd (hx.trans hy.symm) (by have := hg.1; simp only [maxLen]; omega) fun k hk => ((hg.like hx).2 k hk).2.1
theorem markBs {ms ys : List Bk} {base hi c : Nat} {B : Option Addr} {w : World} (hg : AG ms) (hd : ys.map Bk.data = ms.map Bk.data) (ho : BOwn w base B c ys) (hu : BUp hi B c ys) : Calls Try.prog 81 #[.slice B ms.length c, .int .i64 1] w fun e w' => ∃ r : Int, e = .returned (.int .i64 r) ∧ 0 ≤ r ∧ But base hi w w' := by
  rw [← tbs_len hd]
  exact markBackupS_any base hi B c ys 1 w ho hu (hg.like hd).1 (fun y hy => ((hg.like hd).2 y hy).2.1) (by omega) (by omega)
set_option maxRecDepth 100000 in
set_option maxHeartbeats 4000000 in
theorem law_any (A : Option Addr) (c : Nat) (ms : List Bk) (w : World) (hx : BRd w w.heap.size A ms) (hm : ms.length ≤ maxLen) (hg : ∀ m ∈ ms, BkG m) :
    Calls Try.prog 14 #[.slice A ms.length c] w fun e w' => e = .returned (.bool true) ∧ Below w.heap.size w w' := by
  have HA := Lib.hid hx
  have HN := Lib.hid hg
  have HC := Lib.hid (szBackupS_any A c ms 1048576 w hx hm (by omega) (by omega) hg)
  have hl : (archM ms).1.length ≤ 20 := archM_len ms
  generalize hq : archM ms = q at *
  obtain ⟨rs, er⟩ := q
  have HQ := Lib.hid hq
  have HL : Hid (rs.length ≤ 20) := hl
  clear hl hq hx hg hm
  go_enter Try.func14, Try.ntmps14
  go_wp2_with fail
  refine (HC.out).mono ?_
  rintro e w1 ⟨n1, rfl, hn1, hm1, hb1⟩
  have hZ1 : Below w.heap.size w w1 := below_after (Below.refl _ _) hb1
  have hs1 : w.heap.size ≤ w1.heap.size := hb1.size
  have HZ1 := Lib.hid hZ1
  have HB1 := Lib.hid hb1
  clear hZ1 hb1
  have HM1 := Lib.hid hm1
  clear hm1 HC
  by_cases h0 : n1 < 0
  · go_wp2_with fail
    go_ret
    exact ⟨rfl, HZ1.out⟩
  have HG : Hid (AG ms) := ⟨(HM1.out (by omega)).1, fun m hm => ⟨HN.out m hm, (HM1.out (by omega)).2 m hm⟩⟩
  clear HM1
  go_wp2_with fail
  refine (toBackupS_any A c ms _ (HA.out.next HZ1.out) HG.out.1 (fun k hk => (HG.out.2 k hk).2.1)).mono ?_
  rintro e w2 ⟨B2, c2, ys2, rfl, hd2, ho2, hb2⟩
  have hZ2 : Below w.heap.size w w2 := below_after HZ1.out hb2
  have hs2 : w1.heap.size ≤ w2.heap.size := hb2.size
  have HZ2 := Lib.hid hZ2
  have HB2 := Lib.hid hb2
  clear hZ2 hb2
  have HDX0 := Lib.hid hd2
  have HUX0 := Lib.hid ho2.up
  clear hd2
  have HOX0 := Lib.hid ho2
  clear ho2
  go_wp2_with fail
  refine (specA HQ.out HG.out HDX0.out HOX0.out).mono ?_
  rintro e w3 ⟨v3, rfl, ho3, hb3⟩
  have hZ3 : Below w.heap.size w w3 := below_after HZ2.out hb3
  have hs3 : w2.heap.size ≤ w3.heap.size := hb3.size
  have HZ3 := Lib.hid hZ3
  have HB3 := Lib.hid hb3
  clear hZ3 hb3
  have HOS := Lib.hid ho3
  have HIS : Hid (∀ k, (v3).ownBlock = some k → w2.heap.size ≤ k ∧ k < w3.heap.size) := fun k hk => HOS.out.lt k hk
  clear ho3
  go_wp2_with fail
  refine (toBackupS_any A c ms _ (HA.out.next HZ3.out) HG.out.1 (fun k hk => (HG.out.2 k hk).2.1)).mono ?_
  rintro e w4 ⟨B4, c4, ys4, rfl, hd4, ho4, hb4⟩
  have hZ4 : Below w.heap.size w w4 := below_after HZ3.out hb4
  have hs4 : w3.heap.size ≤ w4.heap.size := hb4.size
  have HZ4 := Lib.hid hZ4
  have HB4 := Lib.hid hb4
  clear hZ4 hb4
  have HDX := Lib.hid hd4
  have HUX := Lib.hid ho4.up
  clear hd4
  have HOX := Lib.hid ho4
  clear ho4
  go_wp2_with fail
  refine (implA HQ.out HG.out HDX.out HOX.out).mono ?_
  rintro e w5 ⟨v5, rfl, ho5, hb5⟩
  have hZ5 : Below w.heap.size w w5 := below_after HZ4.out hb5
  have hs5 : w4.heap.size ≤ w5.heap.size := hb5.size
  have HZ5 := Lib.hid hZ5
  have HB5 := Lib.hid hb5
  clear hZ5 hb5
  have HOG := Lib.hid ho5
  have HIG : Hid (∀ k, (v5).ownBlock = some k → w4.heap.size ≤ k ∧ k < w5.heap.size) := fun k hk => HOG.out.lt k hk
  clear ho5
  go_wp2_with fail
  refine (eqStrs HOG.out (own_below (own_below HOS.out HB4.out) HB5.out) (by have := HL.out; simp only [maxLen]; omega)).mono ?_
  rintro e w6 ⟨rfl, hb6⟩
  have hZ6 : Below w.heap.size w w6 := below_after HZ5.out hb6
  have hs6 : w5.heap.size ≤ w6.heap.size := hb6.size
  have HZ6 := Lib.hid hZ6
  have HB6 := Lib.hid hb6
  clear hZ6 hb6
  go_wp2_with fail
  refine (toBackupS_any A c ms _ (HA.out.next HZ6.out) HG.out.1 (fun k hk => (HG.out.2 k hk).2.1)).mono ?_
  rintro e w7 ⟨B7, c7, ys7, rfl, hd7, ho7, hb7⟩
  have hZ7 : Below w.heap.size w w7 := below_after HZ6.out hb7
  have hs7 : w6.heap.size ≤ w7.heap.size := hb7.size
  have HZ7 := Lib.hid hZ7
  have HB7 := Lib.hid hb7
  clear hZ7 hb7
  have HDZ := Lib.hid hd7
  have HUZ := Lib.hid ho7.up
  clear hd7
  have HOZ := Lib.hid ho7
  clear ho7
  go_wp2_with fail
  refine (eqBs HG.out HDX.out HDZ.out (BOwn.below (BOwn.below (BOwn.below HOX.out HB5.out) HB6.out) HB7.out) HOZ.out).mono ?_
  rintro e w8 ⟨rfl, hb8⟩
  have hZ8 : Below w.heap.size w w8 := below_after HZ7.out hb8
  have hs8 : w7.heap.size ≤ w8.heap.size := hb8.size
  have HZ8 := Lib.hid hZ8
  have HB8 := Lib.hid hb8
  clear hZ8 hb8
  go_wp2_with fail
  refine (markBs HG.out HDX.out (BOwn.below (BOwn.below (BOwn.below (BOwn.below HOX.out HB5.out) HB6.out) HB7.out) HB8.out) HUX.out).mono ?_
  rintro e w9 ⟨r9, rfl, hr9, hb9⟩
  have hZ9 : Below w.heap.size w w9 := hb9.after HZ8.out (by omega)
  have hs9 : w8.heap.size ≤ w9.heap.size := hb9.size
  have HZ9 := Lib.hid hZ9
  have HB9 := Lib.hid hb9
  clear hZ9 hb9
  go_wp2_with fail
  refine (eqStrs (own_but (own_below (own_below (own_below HOG.out HB6.out) HB7.out) HB8.out) HB9.out (fun k hk => by have := HIG.out k hk; omega)) (own_but (own_below (own_below (own_below (own_below (own_below HOS.out HB4.out) HB5.out) HB6.out) HB7.out) HB8.out) HB9.out (fun k hk => by have := HIS.out k hk; omega)) (by have := HL.out; simp only [maxLen]; omega)).mono ?_
  rintro e w10 ⟨rfl, hb10⟩
  have hZ10 : Below w.heap.size w w10 := below_after HZ9.out hb10
  have hs10 : w9.heap.size ≤ w10.heap.size := hb10.size
  have HZ10 := Lib.hid hZ10
  have HB10 := Lib.hid hb10
  clear hZ10 hb10
  go_wp2_with fail
  refine (markStringS_any _ _ _ _ 1 _ (own_below (own_but (own_below (own_below (own_below HOG.out HB6.out) HB7.out) HB8.out) HB9.out (fun k hk => by have := HIG.out k hk; omega)) HB10.out) (by have := HL.out; omega) (by omega) (by omega)).mono ?_
  rintro e w11 ⟨rfl, ho11, hb11⟩
  have hZ11 : Below w.heap.size w w11 := below_grown_own HZ10.out hb11 HIG.out (by omega)
  have hs11 : w10.heap.size ≤ w11.heap.size := hb11.size
  have HZ11 := Lib.hid hZ11
  have HB11 := Lib.hid hb11
  clear hZ11 hb11
  have HOM := Lib.hid ho11
  clear ho11
  go_wp2_with fail
  refine (heldStrs HOM.out (by have := HL.out; omega) (by omega) (by omega)).mono ?_
  rintro e w12 ⟨rfl, hb12⟩
  have hZ12 : Below w.heap.size w w12 := below_after HZ11.out hb12
  have hs12 : w11.heap.size ≤ w12.heap.size := hb12.size
  have HZ12 := Lib.hid hZ12
  have HB12 := Lib.hid hb12
  clear hZ12 hb12
  go_wp2_with fail
  refine (toBackupS_any A c ms _ (HA.out.next HZ12.out) HG.out.1 (fun k hk => (HG.out.2 k hk).2.1)).mono ?_
  rintro e w13 ⟨B13, c13, ys13, rfl, hd13, ho13, hb13⟩
  have hZ13 : Below w.heap.size w w13 := below_after HZ12.out hb13
  have hs13 : w12.heap.size ≤ w13.heap.size := hb13.size
  have HZ13 := Lib.hid hZ13
  have HB13 := Lib.hid hb13
  clear hZ13 hb13
  have HDU := Lib.hid hd13
  have HUU := Lib.hid ho13.up
  clear hd13
  have HOU := Lib.hid ho13
  clear ho13
  go_wp2_with fail
  refine (implA HQ.out HG.out HDU.out HOU.out).mono ?_
  rintro e w14 ⟨v14, rfl, ho14, hb14⟩
  have hZ14 : Below w.heap.size w w14 := below_after HZ13.out hb14
  have hs14 : w13.heap.size ≤ w14.heap.size := hb14.size
  have HZ14 := Lib.hid hZ14
  have HB14 := Lib.hid hb14
  clear hZ14 hb14
  have HOH := Lib.hid ho14
  have HIH : Hid (∀ k, (v14).ownBlock = some k → w13.heap.size ≤ k ∧ k < w14.heap.size) := fun k hk => HOH.out.lt k hk
  clear ho14
  go_wp2_with fail
  refine (eqStrs HOH.out (own_below (own_below (own_below ((own_below (own_but (own_below (own_below (own_below (own_below (own_below HOS.out HB4.out) HB5.out) HB6.out) HB7.out) HB8.out) HB9.out (fun k hk => by have := HIS.out k hk; omega)) HB10.out).kept HB11.out (ne_blocks HIS.out HIG.out (by omega))) HB12.out) HB13.out) HB14.out) (by have := HL.out; simp only [maxLen]; omega)).mono ?_
  rintro e w15 ⟨rfl, hb15⟩
  have hZ15 : Below w.heap.size w w15 := below_after HZ14.out hb15
  have hs15 : w14.heap.size ≤ w15.heap.size := hb15.size
  have HZ15 := Lib.hid hZ15
  have HB15 := Lib.hid hb15
  clear hZ15 hb15
  go_wp2_with fail
  refine (heldStrs (own_below (own_below (own_below (own_below HOM.out HB12.out) HB13.out) HB14.out) HB15.out) (by have := HL.out; omega) (by omega) (by omega)).mono ?_
  rintro e w16 ⟨rfl, hb16⟩
  have hZ16 : Below w.heap.size w w16 := below_after HZ15.out hb16
  have hs16 : w15.heap.size ≤ w16.heap.size := hb16.size
  have HZ16 := Lib.hid hZ16
  have HB16 := Lib.hid hb16
  clear hZ16 hb16
  go_wp2_with fail
  go_ret
  exact ⟨rfl, HZ16.out⟩

set_option maxRecDepth 100000 in
theorem lifted (os : Os) (started : os.Started) (H : Type) (enc : TypeId × Value → H) :
    ReturnsInHanded {} Try.checked os 14 .any (Rows.fnExactArchiveBytesSpec.pre6 enc Try.prog Try.f14 Rows.fnExactArchiveBytesRow.domain false) (Rows.fnExactArchiveBytesSpec.post enc Try.prog Try.f14 false true false false) := by
  refine returnsInHanded_of_change_sized (C := Try.checked) Facts.own started (by kernel_rfl) Try.func14
    (ChangeSpec.witness6 (enc := enc) (C := Try.checked) false ⟨#[], #[.slice none 0 0], []⟩ 8 (by kernel_rfl) (by kernel_rfl) (by kernel_rfl) (by kernel_rfl)) ?_
  intro W base args ds gs before hval0 hW hcnd hsz0 _
  have hsz : (DataW.weightsEach Try.prog (Try.f14.params.toList ++ Rows.fnExactArchiveBytesSpec.plain.varTypes Try.prog) (ds ++ gs)).all (· ≤ reachBytes) = true := hsz0
  have hval : ∀ (j : Nat) t v, Try.f14.params[j]? = some t → args[j]? = some v → Value.okWide Try.prog W .any base t v := hval0
  have hW' := hW
  obtain ⟨p, q, hA0, hV, rfl, hfz, hnd⟩ := hW
  have hA : DataW.TrodAll enc Try.prog W 0 (fun _ => true) true Try.f14.params.toList args.toList ds p := hA0
  rw [Try.params14] at hA hval hsz
  obtain ⟨rfl, rfl⟩ := trodVars_none hV
  have hltp : ∀ x ∈ p, x.block < W.heap.size := fun x hx => by simpa using hW'.lt x (by simp [hx])
  clear hA0 hval0 hsz0
  obtain ⟨v0, d0, rfl, rfl, h0⟩ := trodAll_one hA
  obtain ⟨a0, len0, cap0, hv0⟩ := okWide_slice Try.underlying101 (hval 0 101 v0 rfl rfl)
  obtain ⟨fuel, hf⟩ := id h0
  rw [hv0] at hf
  obtain ⟨A, c, ms, hv, hx, hm, hg⟩ := open_backups hf
  obtain rfl : v0 = .slice A ms.length c := hv0.trans hv
  refine (law_any A c ms W hx hm hg).mono fun e W' ⟨he, bel⟩ => ?_
  subst he
  exact ⟨_, rfl, _, _, _, [], _, [], hW', trodAll_mk1 (shut_bool Try.underlying4 _), trodAll_mk1 (Below.trod Facts.laidOut (by kernel_rfl) (of_decide_eq_true (by kernel_rfl)) h0 bel hltp), rfl, bel.frame _, fun h => by cases h⟩
theorem named_ : Try.pinned.checked.prog.funcNamed Rows.fnExactArchiveBytesRow.func = some 14 := by kernel_rfl
set_option maxHeartbeats 8000000 in
theorem closed_ : joinedFacts Try.pinned.checked.prog 14 Try.f14 Rows.fnExactArchiveBytesSpec Rows.fnExactArchiveBytesRow = true := by
  unfold joinedFacts
  with_reducible repeat' (refine Facts.and_t ?_ ?_)
  all_goals first
    | with_reducible exact Facts.laidOut
    | with_reducible exact Facts.mapsRowed
    | with_reducible exact Facts.stopsHeard
    | with_reducible exact Facts.mayEnter
    | (rw [Facts.plainKeys]; as_aux_lemma => kernel_rfl)
    | (rw [Facts.lifts]; as_aux_lemma => kernel_rfl)
    | (rw [Facts.make_]; as_aux_lemma => kernel_rfl)
    | as_aux_lemma => kernel_rfl
theorem inst_ : Try.f14.isInstance Try.pinned.checked.prog Rows.fnExactArchiveBytesRow.origin Rows.fnExactArchiveBytesRow.targs := of_decide_eq_true (by kernel_rfl)
theorem wrap_ : Try.f14.isWrapper Try.pinned.checked.prog Rows.fnExactArchiveBytesRow.wrapper Rows.fnExactArchiveBytesRow.mainSum := by unfold Func.isWrapper; first | (rw [if_pos (by decide +kernel)]; kernel_rfl) | (rw [if_neg (by decide +kernel)]; exact ⟨rfl, rfl⟩)
theorem over : Rows.fnExactArchiveBytesRow.holds Try.pinned (OpenSpec.ofChange Rows.fnExactArchiveBytesSpec) :=
  OpenClaim.holds_of_wide 14 Try.f14 rfl rfl rfl rfl rfl rfl rfl ⟨rfl, rfl, rfl, rfl, rfl⟩ rfl rfl rfl rfl rfl named_ Try.func14 closed_ inst_ wrap_
    (fun os started H enc _ => lifted os started H enc)
theorem proved : Rows.FnExactArchiveBytesSaid := over
#print axioms proved
end Go.Proofs.Ytlfnpnkpjdmonaa.lawArchive
namespace Go.Proofs.Ytlfnpnkpjdmonaa
/-- The row, under a short name, for the claim. -/
theorem fnExactArchiveBytes_holds : Rows.FnExactArchiveBytesSaid := lawArchive.proved
end Go.Proofs.Ytlfnpnkpjdmonaa
