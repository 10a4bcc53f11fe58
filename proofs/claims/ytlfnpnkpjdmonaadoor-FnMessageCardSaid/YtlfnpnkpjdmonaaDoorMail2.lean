import Derived.Test.YtlfnpnkpjdmonaaDoorMail1
set_option linter.unusedVariables false
set_option linter.unusedSimpArgs false
namespace Go.Proofs.YtlfnpnkpjdmonaaDoor
open Go.RowKit

/-! ### is a word in a text -/
theorem contains_any (x y : List UInt8) (w : World) (hm : ML w) (hl : x.length < 4294967281) : Calls Tryd.prog 70 #[.string (bs x), .string (bs y)] w fun e w' => e = .returned (.bool (Go.Lib.contains x y)) ∧ w = w' := by
  obtain ⟨m, hm⟩ := hm
  exact (Tryd.strings_Contains (bs x) (bs y) m w (by simpa [ByteArray.size] using hl) hm).mono fun e w' h => ⟨h.1, h.2.symm⟩
theorem contains_at {x y : List UInt8} {k : Nat} (h : k + y.length ≤ x.length) (he : ((x.drop k).take y.length == y) = true) (hb : ∀ j, j < k → Go.Lib.occAt x y j = false) : Go.Lib.contains x y = true := by
  unfold Go.Lib.contains
  rw [Go.Lib.index_first (i := k) (by omega) (by rw [Go.Lib.occAt_iff_take x y k h]; exact he) hb]
  exact decide_eq_true (by omega)
theorem contains_no {x y : List UInt8} {k : Nat} (h : ¬ k + y.length ≤ x.length) (hb : ∀ j, j < k → Go.Lib.occAt x y j = false) : Go.Lib.contains x y = false := by
  unfold Go.Lib.contains
  rw [Go.Lib.index_none (fun j hj => ?_)]
  · rfl
  · by_cases hjk : j < k
    · exact hb j hjk
    · cases ho : Go.Lib.occAt x y j with
      | false => rfl
      | true =>
        rcases Go.Lib.occAt_room ho with h1 | h1
        · omega
        · subst h1; simp at h; omega
set_option maxRecDepth 100000 in
set_option maxHeartbeats 1000000 in
theorem l08Holds_any (x y : List UInt8) (w : World) (hx : x.length ≤ 1048576) (hy : y.length ≤ 1048576) : Calls Tryd.prog 68 #[.string (bs x), .string (bs y)] w fun e w' => e = .returned (.bool (Go.Lib.contains x y)) ∧ w = w' := by
  have hs0 := bs_size x
  have hs1 := bs_size y
  have HR : Hid (Go.Lib.contains x y = Go.Lib.contains x y) := rfl
  go_enter Tryd.func68, Tryd.ntmps68
  go_wp2_with fail
  go_loop [5] (fun i => ∃ k : Nat, k ≤ x.length + 1 ∧ i = .int .i64 k ∧ ∀ j, j < k → Go.Lib.occAt x y j = false) (fun i => x.length + 1 - (intOf i).toNat)
  case atStart => exact ⟨0, Nat.zero_le _, rfl, fun j hj => by omega⟩
  case round =>
    obtain ⟨k, hk, rfl, hno⟩ := hrel
    have HNO := Lib.hid hno
    clear hno
    by_cases hlt : k + y.length ≤ x.length
    · obtain ⟨z, hz⟩ : ∃ z, z = (x.drop k).take y.length := ⟨_, rfl⟩
      have e1 : (bs x).extract k (k + y.length) = bs z := by rw [hz, bs_cut]; congr 1; rw [show k + y.length - k = y.length from by omega]
      have b1 : (0 : Int) ≤ (k : Int) + y.length := by omega
      have b2 : (k : Int) + y.length ≤ (x.length : Int) := by omega
      have b3 : ((k : Int) + y.length).toNat = k + y.length := by omega
      have b4 : IntKind.i64.wrap ((k : Int) + y.length) = (k : Int) + y.length := IntWalk.i64_in _ (by omega)
      have b5 : (k : Int) ≤ (k : Int) + y.length := by omega
      cases hc : (z == y) with
      | true =>
        have HC : Hid (Go.Lib.contains x y = true) := contains_at hlt (by rw [← hz]; exact hc) HNO.out
        clear hz
        go_wp2_with fail
        go_ret
        exact ⟨by rw [HC.out]; rfl, rfl⟩
      | false =>
        have HN : Hid (Go.Lib.occAt x y k = false) := by show Go.Lib.occAt x y k = false; rw [Go.Lib.occAt_iff_take x y k hlt, ← hz]; exact hc
        clear hz
        go_wp2_with fail
        go_round
        case rel =>
          refine ⟨k + 1, by omega, by go_num, fun j hj => ?_⟩
          by_cases hjk : j = k
          · subst hjk; exact HN.out
          · exact HNO.out j (by omega)
        case measure => simp [intOf]; omega
    · have HC : Hid (Go.Lib.contains x y = false) := contains_no hlt HNO.out
      go_wp2_with fail
      go_ret
      exact ⟨by rw [HC.out]; rfl, rfl⟩

/-! ### what is found -/
noncomputable def hitM (m : Ml) (nl wl : List UInt8) : Bool := if nl = [] then Go.Lib.contains (m.text.data.toList.map lowB) (wl.map lowB) else match parM m.text.data.toList with | none => false | some p => (fieldR p.1 nl).2 && Go.Lib.contains ((fieldR p.1 nl).1.data.toList.map lowB) (wl.map lowB)
noncomputable def srchM (ms : List Ml) (nl wl : List UInt8) : List Int := (ms.filter fun m => hitM m nl wl).map (·.uid)
theorem srchM_step {ms : List Ml} {nl wl : List UInt8} {k : Nat} (h : k < ms.length) : srchM (ms.take (k + 1)) nl wl = srchM (ms.take k) nl wl ++ if hitM ms[k] nl wl = true then [ms[k].uid] else [] := by
  unfold srchM
  rw [List.take_succ_eq_append_getElem h, List.filter_append, List.map_append]
  congr 1
  by_cases hh : hitM ms[k] nl wl = true
  · rw [if_pos hh]; simp [List.filter, hh]
  · rw [if_neg hh]; simp [List.filter, hh]
theorem srchM_len (ms : List Ml) (nl wl : List UInt8) : (srchM ms nl wl).length ≤ ms.length := by
  unfold srchM
  rw [List.length_map]
  exact List.length_filter_le _ _
theorem fieldR_size {fs : List Pr} {nl : List UInt8} {n : Nat} (h : ∀ p ∈ fs, p.2.size ≤ n) : (fieldR fs nl).1.size ≤ n := by
  unfold fieldR
  cases hf : fs.find? (fun p => sameL p.1.data.toList nl) with
  | none => exact Nat.zero_le _
  | some p => exact h p (List.mem_of_find?_eq_some hf)
theorem elInt : ElT Tryd.prog 35 3 1 8 := by
  have hi : (Tryd.prog.info? 3).map (fun i => (i.zero, i.size, i.bytes)) = some (some (.int .i64 0), 1, 8) := by kernel_rfl
  obtain ⟨i, hi, hz, hs, hb⟩ := info_parts hi
  exact ⟨i, _, Tryd.underlying35, hi, hz, hs, hb, rfl, by decide⟩
theorem row3_cells {wr : World} {g : Nat} {a b c : Value} {T : TypeId} (h : wr.heap[g]? = some (.cells #[a, b, c] T (0, 0))) : wr.cell? ⟨g, 0, none⟩ = some a ∧ wr.cell? ⟨g, 1, none⟩ = some b ∧ wr.cell? ⟨g, 2, none⟩ = some c :=
  ⟨by rw [cell_of_row wr _ 0 _ _ _ h]; rfl, by rw [cell_of_row wr _ 1 _ _ _ h]; rfl, by rw [cell_of_row wr _ 2 _ _ _ h]; rfl⟩
def Srch (ms : List Ml) (nl wl : List UInt8) (w : World) (e : Ending) (w' : World) : Prop := ∃ v, e = .returned v ∧ w'.ownsRow w.heap.size 3 1 v (srchM ms nl wl).length ((srchM ms nl wl).map iv) ∧ Below w.heap.size w w'
set_option maxRecDepth 100000 in
set_option maxHeartbeats 4000000 in
theorem searched_any (A : Option Addr) (c : Nat) (ms : List Ml) (nl wl : List UInt8) (w : World) (hx : Rd w w.heap.size A (flat encM ms)) (hml : ML w) (hl : ms.length ≤ 100) (hs : ∀ m ∈ ms, m.text.size ≤ 85) (hnl : nl.length ≤ 1048576) (hwl : wl.length ≤ 1048576) :
    Calls Tryd.prog 48 #[.slice A ms.length c, .string (bs nl), .string (bs wl)] w (Srch ms nl wl w) := by
  have HX := Lib.hid hx
  have HS := Lib.hid hs
  have HML := Lib.hid hml
  have HWL := Lib.hid hwl
  have HNL := Lib.hid hnl
  have H0 : Hid ((w.alloc (.cells #[] 3)).ownsRow w.heap.size 3 1 (.slice (some ⟨w.heap.size, 0, none⟩) 0 0) 0 []) := own_empty_at (Nat.le_refl _) (heap_alloc_new _ _)
  have HB0 : Hid (Below w.heap.size w (w.alloc (.cells #[] 3))) := by show Below _ _ _; repeat (first | exact Below.refl _ _ | assumption | refine Below.drew ?_ | refine below_drewN ?_ _ | refine Below.setCell ?_ (by first | exact Nat.le_refl _ | exact Below.size (by assumption) | (simp; done) | (simp; omega) | omega) _ | refine Below.alloc ?_ (by first | exact Nat.le_refl _ | exact Below.size (by assumption) | (simp; done) | (simp; omega) | omega) _)
  clear hx hs hml hwl hnl
  go_enter Tryd.func48, Tryd.ntmps48
  go_wp2_with fail
  go_loopw [7, 17] (fun v i wr => ∃ k : Nat, k ≤ ms.length ∧ i = .int .i64 k ∧ wr.ownsRow w.heap.size 3 1 v (srchM (ms.take k) nl wl).length ((srchM (ms.take k) nl wl).map iv) ∧ Below w.heap.size w wr) (fun _ i _ => ms.length - (intOf i).toNat)
  case atStart => exact ⟨0, Nat.zero_le _, rfl, H0.out, HB0.out⟩
  case round =>
    obtain ⟨k, hk, rfl, ho, hb⟩ := hrel
    have HO := Lib.hid ho
    have HB := Lib.hid hb
    obtain ⟨A0, n0, rfl, _⟩ := own_form ho
    by_cases hlt : k < ms.length
    · have HSL : Hid ((srchM (ms.take k) nl wl).length ≤ 100) := by have := srchM_len (ms.take k) nl wl; rw [List.length_take] at this; show _ ≤ _; omega
      obtain ⟨ad, rfl, hbl, h0, h1, h2⟩ := (HX.out.below hb).ml hlt
      have HT := Lib.hid (HS.out _ (List.getElem_mem hlt))
      obtain ⟨m, hm⟩ : ∃ m, ms[k] = m := ⟨_, rfl⟩
      have HMM := Lib.hid hm
      rw [hm] at h0 h1 h2 HT
      obtain ⟨tx, htx⟩ : ∃ tx, m.text = bs tx := ⟨_, bs_eta' m.text⟩
      have HTX := Lib.hid htx
      have HLX0 : Hid (tx.length ≤ 85) := by have := HT.out; rw [htx, bs_size] at this; exact this
      rw [htx] at h2
      have hsw := hb.size
      have hsz9 := bs_size tx
      clear hm htx ho hb
      have HBA : Hid (Below wr.heap.size wr (wr.alloc (.cells #[.int .i64 m.uid, .int .i64 m.flags, .string (bs tx)] 51))) := by show Below _ _ _; exact (Below.refl _ _).alloc (Nat.le_refl _) _
      have HXA : Hid ((wr.alloc (.cells #[.int .i64 m.uid, .int .i64 m.flags, .string (bs tx)] 51)).heap[wr.heap.size]? = some (.cells #[.int .i64 m.uid, .int .i64 m.flags, .string (bs tx)] 51 (0, 0))) := heap_alloc_new _ _
      have HBW := Lib.hid (below_after HB.out HBA.out)
      have HOW := Lib.hid (own_below HO.out HBA.out)
      by_cases hne : nl = []
      · have hie : nl.isEmpty = true := by rw [hne]; rfl
        have hie2 : (bs nl).toList.isEmpty = true := by rw [bs_isE]; exact hie
        have HIT : Hid (hitM m nl wl = Go.Lib.contains (tx.map lowB) (wl.map lowB)) := by show hitM m nl wl = _; rw [hitM, if_pos hne, HTX.out]
        have HLX : Hid (tx.length ≤ 1048576) := by have := HLX0.out; show _ ≤ _; omega
        clear hne
        have hszq := HBW.out.size
        go_wp2_with fail
        refine (lower_any tx _ HLX.out).mono ?_
        rintro e w7 ⟨rfl, hb7⟩
        have HB7 := Lib.hid (below_after HBW.out hb7)
        have HO7 := Lib.hid (own_below HOW.out hb7)
        have HX7 := Lib.hid ((hb7.block _ (Array.getElem?_eq_some_iff.1 HXA.out).1).trans HXA.out)
        clear hb7
        go_wp2_with fail
        refine (lower_any wl _ HWL.out).mono ?_
        rintro e w8 ⟨rfl, hb8⟩
        have HB8 := Lib.hid (below_after HB7.out hb8)
        have HO8 := Lib.hid (own_below HO7.out hb8)
        have HX8 := Lib.hid ((hb8.block _ (Array.getElem?_eq_some_iff.1 HX7.out).1).trans HX7.out)
        have hs8 := HB8.out.size
        clear hb8
        go_wp2_with fail
        refine (contains_any (tx.map lowB) (wl.map lowB) _ (HML.out.below HB8.out) (by rw [List.length_map]; have := HLX.out; omega)).mono ?_
        rintro e w9 ⟨rfl, rfl⟩
        obtain ⟨q0, q1, q2⟩ := row3_cells HX8.out
        have hbxl : wr.heap.size < w8.heap.size := (Array.getElem?_eq_some_iff.1 HX8.out).1
        cases hcn : Go.Lib.contains (tx.map lowB) (wl.map lowB) with
        | false =>
          rw [hcn] at HIT
          have HST : Hid (srchM (ms.take (k + 1)) nl wl = srchM (ms.take k) nl wl) := by show _ = _; rw [srchM_step hlt, HMM.out, HIT.out]; simp
          clear hcn
          go_wp2_with fail
          go_roundw
          case rel => exact ⟨k + 1, by omega, by go_num, by rw [HST.out]; exact HO8.out, HB8.out⟩
          case measure => simp [intOf]; omega
        | true =>
          rw [hcn] at HIT
          have HST : Hid (srchM (ms.take (k + 1)) nl wl = srchM (ms.take k) nl wl ++ [m.uid]) := by show _ = _; rw [srchM_step hlt, HMM.out, HIT.out]; simp
          clear hcn
          go_wp2_with (at_builtin; refine push_one elInt rfl _ _ rfl w.heap.size _ (srchM (ms.take k) nl wl).length _ rfl HO8.out [.int .i64 m.uid] _ rfl rfl rfl (by simp [Value.oneCell']) (by have := HSL.out; simp only [maxLen]; omega) (by have := HSL.out; omega) (by omega) ?_)
          intro v9 w9 hp
          have HP := Lib.hid hp.1
          have HB9 := Lib.hid (hp.below HO8.out HB8.out (by omega))
          obtain ⟨A9, n9, rfl, _⟩ := own_form hp.1
          clear hp
          go_wp2_with fail
          go_roundw
          case rel => exact ⟨k + 1, by omega, by go_num, by rw [HST.out, List.length_append, List.map_append]; exact HP.out, HB9.out⟩
          case measure => simp [intOf]; omega
      · have hie : nl.isEmpty = false := by cases nl with | nil => exact absurd rfl hne | cons => rfl
        have hie2 : (bs nl).toList.isEmpty = false := by rw [bs_isE]; exact hie
        have HHM : Hid (hitM m nl wl = match parM tx with | none => false | some p => (fieldR p.1 nl).2 && Go.Lib.contains ((fieldR p.1 nl).1.data.toList.map lowB) (wl.map lowB)) := by show hitM m nl wl = _; rw [hitM, if_neg hne, HTX.out]
        have HPI : Hid (parI tx = parM tx) := if_neg (by have := HLX0.out; omega)
        have HPC := Lib.hid (parse_any tx (wr.alloc (.cells #[.int .i64 m.uid, .int .i64 m.flags, .string (bs tx)] 51)) (HML.out.below HBW.out) (by have := HLX0.out; omega))
        rw [HPI.out] at HPC
        clear hne
        go_wp2_with fail
        refine HPC.out.mono ?_
        rintro e w3 ⟨fs, b, A3, c3, rfl, hp, hz, ho3, hb3⟩
        have HP := Lib.hid hp
        have HZ := Lib.hid hz
        have HBB : Hid (Below w3.heap.size w3 (w3.alloc (.cells #[.slice A3 fs.length c3, .string b] 28))) := by show Below _ _ _; exact (Below.refl _ _).alloc (Nat.le_refl _) _
        have HB4 := Lib.hid (below_after (below_after HBW.out hb3) HBB.out)
        have HO4 := Lib.hid (own_below (own_below HOW.out hb3) HBB.out)
        have HX3 := (hb3.block _ (Array.getElem?_eq_some_iff.1 HXA.out).1).trans HXA.out
        have HX4 := Lib.hid ((HBB.out.block _ (Array.getElem?_eq_some_iff.1 HX3).1).trans HX3)
        have HFD := Lib.hid (field_any w3.heap.size A3 c3 fs b nl (w3.alloc (.cells #[.slice A3 fs.length c3, .string b] 28)) ((Rd.own ho3).next HBB.out) (heap_alloc_new _ _) HNL.out (fun p hp => by have := (hz.2.2 p hp).1; have := HLX0.out; omega) (by have := HLX0.out; omega))
        have HVS := Lib.hid (fieldR_size (nl := nl) (n := 85) (fun p hp => by have := (hz.2.2 p hp).2; have := HLX0.out; omega))
        clear hp hz ho3 hb3 HX3 HPC h0 h1 h2
        cases he : parM tx with
        | none =>
          rw [he] at HHM
          have HIT : Hid (hitM m nl wl = false) := HHM.out
          simp only [Option.isSome_none]
          generalize fieldR fs nl = r at HFD
          obtain ⟨rv, rb⟩ := r
          clear he HVS
          go_wp2_with fail
          refine HFD.out.mono ?_
          rintro e w5 ⟨rfl, hb5⟩
          have HB5 := Lib.hid (below_after HB4.out hb5)
          have HO5 := Lib.hid (own_below HO4.out hb5)
          have hs5 := HB5.out.size
          clear hb5 HFD
          have HST : Hid (srchM (ms.take (k + 1)) nl wl = srchM (ms.take k) nl wl) := by show _ = _; rw [srchM_step hlt, HMM.out, HIT.out]; simp
          cases rb
          all_goals
            go_wp2_with fail
            go_roundw
            case rel => exact ⟨k + 1, by omega, by go_num, by rw [HST.out]; exact HO5.out, HB5.out⟩
            case measure => simp [intOf]; omega
        | some p =>
          rw [he] at HP HHM
          obtain ⟨e1, e2⟩ := HP.out p rfl
          have HH2 : Hid (hitM m nl wl = ((fieldR fs nl).2 && Go.Lib.contains ((fieldR fs nl).1.data.toList.map lowB) (wl.map lowB))) := by show hitM m nl wl = _; rw [HHM.out]; simp only [e1]
          simp only [Option.isSome_some]
          generalize fieldR fs nl = r at HFD HH2 HVS
          obtain ⟨rv, rb⟩ := r
          obtain ⟨vx, hvx⟩ : ∃ vx, rv = bs vx := ⟨_, bs_eta' rv⟩
          subst hvx
          have HLX : Hid (vx.length ≤ 1048576) := by have := HVS.out; simp only [bs_size] at this; show _ ≤ _; omega
          have hsz8 := bs_size vx
          clear he HVS e1 e2 HHM
          go_wp2_with fail
          refine HFD.out.mono ?_
          rintro e w5 ⟨rfl, hb5⟩
          have HB5 := Lib.hid (below_after HB4.out hb5)
          have HO5 := Lib.hid (own_below HO4.out hb5)
          have HX5 := Lib.hid ((hb5.block _ (Array.getElem?_eq_some_iff.1 HX4.out).1).trans HX4.out)
          have hs5 := HB5.out.size
          clear hb5 HFD
          cases rb with
          | false =>
            have HIT : Hid (hitM m nl wl = false) := HH2.out
            have HST : Hid (srchM (ms.take (k + 1)) nl wl = srchM (ms.take k) nl wl) := by show _ = _; rw [srchM_step hlt, HMM.out, HIT.out]; simp
            go_wp2_with fail
            go_roundw
            case rel => exact ⟨k + 1, by omega, by go_num, by rw [HST.out]; exact HO5.out, HB5.out⟩
            case measure => simp [intOf]; omega
          | true =>
            have HIT : Hid (hitM m nl wl = Go.Lib.contains (vx.map lowB) (wl.map lowB)) := HH2.out
            have hszq := HB5.out.size
            go_wp2_with fail
            refine (lower_any vx _ HLX.out).mono ?_
            rintro e w7 ⟨rfl, hb7⟩
            have HB7 := Lib.hid (below_after HB5.out hb7)
            have HO7 := Lib.hid (own_below HO5.out hb7)
            have HX7 := Lib.hid ((hb7.block _ (Array.getElem?_eq_some_iff.1 HX5.out).1).trans HX5.out)
            clear hb7
            go_wp2_with fail
            refine (lower_any wl _ HWL.out).mono ?_
            rintro e w8 ⟨rfl, hb8⟩
            have HB8 := Lib.hid (below_after HB7.out hb8)
            have HO8 := Lib.hid (own_below HO7.out hb8)
            have HX8 := Lib.hid ((hb8.block _ (Array.getElem?_eq_some_iff.1 HX7.out).1).trans HX7.out)
            have hs8 := HB8.out.size
            clear hb8
            go_wp2_with fail
            refine (contains_any (vx.map lowB) (wl.map lowB) _ (HML.out.below HB8.out) (by rw [List.length_map]; have := HLX.out; omega)).mono ?_
            rintro e w9 ⟨rfl, rfl⟩
            obtain ⟨q0, q1, q2⟩ := row3_cells HX8.out
            have hbxl : wr.heap.size < w8.heap.size := (Array.getElem?_eq_some_iff.1 HX8.out).1
            cases hcn : Go.Lib.contains (vx.map lowB) (wl.map lowB) with
            | false =>
              rw [hcn] at HIT
              have HST : Hid (srchM (ms.take (k + 1)) nl wl = srchM (ms.take k) nl wl) := by show _ = _; rw [srchM_step hlt, HMM.out, HIT.out]; simp
              clear hcn
              go_wp2_with fail
              go_roundw
              case rel => exact ⟨k + 1, by omega, by go_num, by rw [HST.out]; exact HO8.out, HB8.out⟩
              case measure => simp [intOf]; omega
            | true =>
              rw [hcn] at HIT
              have HST : Hid (srchM (ms.take (k + 1)) nl wl = srchM (ms.take k) nl wl ++ [m.uid]) := by show _ = _; rw [srchM_step hlt, HMM.out, HIT.out]; simp
              clear hcn
              go_wp2_with (at_builtin; refine push_one elInt rfl _ _ rfl w.heap.size _ (srchM (ms.take k) nl wl).length _ rfl HO8.out [.int .i64 m.uid] _ rfl rfl rfl (by simp [Value.oneCell']) (by have := HSL.out; simp only [maxLen]; omega) (by have := HSL.out; omega) (by omega) ?_)
              intro v9 w9 hp
              have HP := Lib.hid hp.1
              have HB9 := Lib.hid (hp.below HO8.out HB8.out (by omega))
              obtain ⟨A9, n9, rfl, _⟩ := own_form hp.1
              clear hp
              go_wp2_with fail
              go_roundw
              case rel => exact ⟨k + 1, by omega, by go_num, by rw [HST.out, List.length_append, List.map_append]; exact HP.out, HB9.out⟩
              case measure => simp [intOf]; omega
    · have hkl : k = ms.length := by omega
      subst hkl
      rw [List.take_length] at ho HO
      clear hb
      (try simp only [List.take_length])
      go_wp2_with fail
      go_ret
      refine ⟨.slice A0 (srchM ms nl wl).length n0, ?_, HO.out, HB.out⟩
      first | rfl | simp [List.take_length]
end Go.Proofs.YtlfnpnkpjdmonaaDoor
