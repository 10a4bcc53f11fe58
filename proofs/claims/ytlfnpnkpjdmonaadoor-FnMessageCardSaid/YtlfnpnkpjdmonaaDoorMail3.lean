import Derived.Test.YtlfnpnkpjdmonaaDoorMail2
set_option linter.unusedVariables false
set_option linter.unusedSimpArgs false
namespace Go.Proofs.YtlfnpnkpjdmonaaDoor
open Go.RowKit

/-! ### the reference's search -/
set_option maxRecDepth 100000 in
set_option maxHeartbeats 4000000 in
theorem l08Search_any (A : Option Addr) (c : Nat) (ms : List Ml) (nl wl : List UInt8) (w : World) (hx : Rd w w.heap.size A (flat encM ms)) (hl : ms.length ≤ 100) (hs : ∀ m ∈ ms, m.text.size ≤ 85) (hnl : nl.length ≤ 1048576) (hwl : wl.length ≤ 1048576) :
    Calls Tryd.prog 44 #[.slice A ms.length c, .string (bs nl), .string (bs wl)] w (Srch ms nl wl w) := by
  have HX := Lib.hid hx
  have HS := Lib.hid hs
  have HWL := Lib.hid hwl
  have HNL := Lib.hid hnl
  have H0 : Hid ((w.alloc (.cells #[] 3)).ownsRow w.heap.size 3 1 (.slice (some ⟨w.heap.size, 0, none⟩) 0 0) 0 []) := own_empty_at (Nat.le_refl _) (heap_alloc_new _ _)
  have HB0 : Hid (Below w.heap.size w (w.alloc (.cells #[] 3))) := by show Below _ _ _; repeat (first | exact Below.refl _ _ | assumption | refine Below.drew ?_ | refine below_drewN ?_ _ | refine Below.setCell ?_ (by first | exact Nat.le_refl _ | exact Below.size (by assumption) | (simp; done) | (simp; omega) | omega) _ | refine Below.alloc ?_ (by first | exact Nat.le_refl _ | exact Below.size (by assumption) | (simp; done) | (simp; omega) | omega) _)
  clear hx hs hwl hnl
  go_enter Tryd.func44, Tryd.ntmps44
  go_wp2_with fail
  go_loopw [7, 8] (fun v i wr => ∃ k : Nat, k ≤ ms.length ∧ i = .int .i64 k ∧ wr.ownsRow w.heap.size 3 1 v (srchM (ms.take k) nl wl).length ((srchM (ms.take k) nl wl).map iv) ∧ Below w.heap.size w wr) (fun _ i _ => ms.length - (intOf i).toNat)
  case atStart => exact ⟨0, Nat.zero_le _, rfl, H0.out, HB0.out⟩
  case round =>
    obtain ⟨k, hk, rfl, ho, hb⟩ := hrel
    have HO := Lib.hid ho
    have HB := Lib.hid hb
    obtain ⟨A0, n0, rfl, _⟩ := own_form ho
    by_cases hlt : k < ms.length
    · have HSL : Hid ((srchM (ms.take k) nl wl).length ≤ 100) := by have := srchM_len (ms.take k) nl wl; rw [List.length_take] at this; show _ ≤ _; omega
      obtain ⟨ad, rfl, hbl, h0, h1, h2⟩ := (HX.out.below hb).ml hlt
      have HT := Lib.hid (HS.out _ (List.getElem_mem hlt))
      obtain ⟨m, hm⟩ : ∃ m, ms[k] = m := ⟨_, rfl⟩
      have HMM := Lib.hid hm
      rw [hm] at h0 h1 h2 HT
      obtain ⟨tx, htx⟩ : ∃ tx, m.text = bs tx := ⟨_, bs_eta' m.text⟩
      have HTX := Lib.hid htx
      have HLX0 : Hid (tx.length ≤ 85) := by have := HT.out; rw [htx, bs_size] at this; exact this
      rw [htx] at h2
      have hsw := hb.size
      have hsz9 := bs_size tx
      clear hm htx ho hb
      have HBL := Lib.hid hbl
      have HH0 := Lib.hid h0
      by_cases hne : nl = []
      · have hie : nl.isEmpty = true := by rw [hne]; rfl
        have hie2 : (bs nl).toList.isEmpty = true := by rw [bs_isE]; exact hie
        have HIT : Hid (hitM m nl wl = Go.Lib.contains (tx.map lowB) (wl.map lowB)) := by show hitM m nl wl = _; rw [hitM, if_pos hne, HTX.out]
        have HLX : Hid (tx.length ≤ 1048576) := by have := HLX0.out; show _ ≤ _; omega
        clear hne
        have hszq := HB.out.size
        go_wp2_with fail
        refine (l08Small_any tx _ HLX.out).mono ?_
        rintro e w7 ⟨rfl, hb7⟩
        have HB7 := Lib.hid (below_after HB.out hb7)
        have HO7 := Lib.hid (own_below HO.out hb7)
        have HR7 := Lib.hid (below_after (Below.refl _ _) hb7)
        clear hb7
        go_wp2_with fail
        refine (l08Small_any wl _ HWL.out).mono ?_
        rintro e w8 ⟨rfl, hb8⟩
        have HB8 := Lib.hid (below_after HB7.out hb8)
        have HO8 := Lib.hid (own_below HO7.out hb8)
        have HR8 := Lib.hid (below_after HR7.out hb8)
        have hs8 := HB8.out.size
        clear hb8
        go_wp2_with fail
        refine (l08Holds_any (tx.map lowB) (wl.map lowB) _ (by rw [List.length_map]; exact HLX.out) (by rw [List.length_map]; exact HWL.out)).mono ?_
        rintro e w9 ⟨rfl, rfl⟩
        have q0 : w8.cell? (ad.add (k * 3)) = some (.int .i64 m.uid) := (HR8.out.cell (by rw [add_block]; have := HBL.out; omega)).trans HH0.out
        cases hcn : Go.Lib.contains (tx.map lowB) (wl.map lowB) with
        | false =>
          rw [hcn] at HIT
          have HST : Hid (srchM (ms.take (k + 1)) nl wl = srchM (ms.take k) nl wl) := by show _ = _; rw [srchM_step hlt, HMM.out, HIT.out]; simp
          clear hcn
          go_wp2_with fail
          go_roundw
          case rel => exact ⟨k + 1, by omega, by go_num, by rw [HST.out]; exact HO8.out, HB8.out⟩
          case measure => simp [intOf]; omega
        | true =>
          rw [hcn] at HIT
          have HST : Hid (srchM (ms.take (k + 1)) nl wl = srchM (ms.take k) nl wl ++ [m.uid]) := by show _ = _; rw [srchM_step hlt, HMM.out, HIT.out]; simp
          clear hcn
          go_wp2_with (at_builtin; refine push_one elInt rfl _ _ rfl w.heap.size _ (srchM (ms.take k) nl wl).length _ rfl HO8.out [.int .i64 m.uid] _ rfl rfl rfl (by simp [Value.oneCell']) (by have := HSL.out; simp only [maxLen]; omega) (by have := HSL.out; omega) (by omega) ?_)
          intro v9 w9 hp
          have HP := Lib.hid hp.1
          have HB9 := Lib.hid (hp.below HO8.out HB8.out (by omega))
          obtain ⟨A9, n9, rfl, _⟩ := own_form hp.1
          clear hp
          go_wp2_with fail
          go_roundw
          case rel => exact ⟨k + 1, by omega, by go_num, by rw [HST.out, List.length_append, List.map_append]; exact HP.out, HB9.out⟩
          case measure => simp [intOf]; omega
      · have hie : nl.isEmpty = false := by cases nl with | nil => exact absurd rfl hne | cons => rfl
        have hie2 : (bs nl).toList.isEmpty = false := by rw [bs_isE]; exact hie
        have HHM : Hid (hitM m nl wl = match parM tx with | none => false | some p => (fieldR p.1 nl).2 && Go.Lib.contains ((fieldR p.1 nl).1.data.toList.map lowB) (wl.map lowB)) := by show hitM m nl wl = _; rw [hitM, if_neg hne, HTX.out]; have e9 : (bs tx).data.toList = tx := rfl; rw [e9]; cases parM tx <;> rfl
        have HPC := Lib.hid (l08Parse_any tx wr (by have := HLX0.out; omega))
        clear hne
        go_wp2_with fail
        refine HPC.out.mono ?_
        rintro e w3 ⟨fs, b, A3, c3, rfl, hp, hz, ho3, hb3⟩
        have HP := Lib.hid hp
        have HZ := Lib.hid hz
        have HBB : Hid (Below w3.heap.size w3 (w3.alloc (.cells #[.slice A3 fs.length c3, .string b] 28))) := by show Below _ _ _; exact (Below.refl _ _).alloc (Nat.le_refl _) _
        have HB4 := Lib.hid (below_after (below_after HB.out hb3) HBB.out)
        have HO4 := Lib.hid (own_below (own_below HO.out hb3) HBB.out)
        have HR4 := Lib.hid (below_after hb3 HBB.out)
        have hs3 := hb3.size
        have HFD := Lib.hid (l08Field_any A3 c3 fs b nl (w3.alloc (.cells #[.slice A3 fs.length c3, .string b] 28)) ((Rd.own ho3).next HBB.out) HNL.out (fun p hp => by have := (hz.2.2 p hp).1; have := HLX0.out; omega) (by have := HLX0.out; omega))
        have HVS := Lib.hid (fieldR_size (nl := nl) (n := 85) (fun p hp => by have := (hz.2.2 p hp).2; have := HLX0.out; omega))
        clear hp hz ho3 hb3 HPC h0 h1 h2
        cases he : parM tx with
        | none =>
          rw [he] at HHM
          have HIT : Hid (hitM m nl wl = false) := HHM.out
          simp only [Option.isSome_none]
          clear he HVS HFD
          have HST : Hid (srchM (ms.take (k + 1)) nl wl = srchM (ms.take k) nl wl) := by show _ = _; rw [srchM_step hlt, HMM.out, HIT.out]; simp
          go_wp2_with fail
          go_roundw
          case rel => exact ⟨k + 1, by omega, by go_num, by rw [HST.out]; exact HO4.out, HB4.out⟩
          case measure => simp [intOf]; omega
        | some p =>
          rw [he] at HP HHM
          obtain ⟨e1, e2⟩ := HP.out p rfl
          have HH2 : Hid (hitM m nl wl = ((fieldR fs nl).2 && Go.Lib.contains ((fieldR fs nl).1.data.toList.map lowB) (wl.map lowB))) := by show hitM m nl wl = _; rw [HHM.out]; simp only [e1]
          simp only [Option.isSome_some]
          generalize fieldR fs nl = r at HFD HH2 HVS
          obtain ⟨rv, rb⟩ := r
          obtain ⟨vx, hvx⟩ : ∃ vx, rv = bs vx := ⟨_, bs_eta' rv⟩
          subst hvx
          have HLX : Hid (vx.length ≤ 1048576) := by have := HVS.out; simp only [bs_size] at this; show _ ≤ _; omega
          have hsz8 := bs_size vx
          clear he HVS e1 e2 HHM
          go_wp2_with fail
          refine HFD.out.mono ?_
          rintro e w5 ⟨rfl, hb5⟩
          have HB5 := Lib.hid (below_after HB4.out hb5)
          have HO5 := Lib.hid (own_below HO4.out hb5)
          have HR5 := Lib.hid (below_after HR4.out hb5)
          have hs5 := HB5.out.size
          clear hb5 HFD
          cases rb with
          | false =>
            have HIT : Hid (hitM m nl wl = false) := HH2.out
            have HST : Hid (srchM (ms.take (k + 1)) nl wl = srchM (ms.take k) nl wl) := by show _ = _; rw [srchM_step hlt, HMM.out, HIT.out]; simp
            go_wp2_with fail
            go_roundw
            case rel => exact ⟨k + 1, by omega, by go_num, by rw [HST.out]; exact HO5.out, HB5.out⟩
            case measure => simp [intOf]; omega
          | true =>
            have HIT : Hid (hitM m nl wl = Go.Lib.contains (vx.map lowB) (wl.map lowB)) := HH2.out
            have hszq := HB5.out.size
            go_wp2_with fail
            refine (l08Small_any vx _ HLX.out).mono ?_
            rintro e w7 ⟨rfl, hb7⟩
            have HB7 := Lib.hid (below_after HB5.out hb7)
            have HO7 := Lib.hid (own_below HO5.out hb7)
            have HR7 := Lib.hid (below_after HR5.out hb7)
            clear hb7
            go_wp2_with fail
            refine (l08Small_any wl _ HWL.out).mono ?_
            rintro e w8 ⟨rfl, hb8⟩
            have HB8 := Lib.hid (below_after HB7.out hb8)
            have HO8 := Lib.hid (own_below HO7.out hb8)
            have HR8 := Lib.hid (below_after HR7.out hb8)
            have hs8 := HB8.out.size
            clear hb8
            go_wp2_with fail
            refine (l08Holds_any (vx.map lowB) (wl.map lowB) _ (by rw [List.length_map]; exact HLX.out) (by rw [List.length_map]; exact HWL.out)).mono ?_
            rintro e w9 ⟨rfl, rfl⟩
            have q0 : w8.cell? (ad.add (k * 3)) = some (.int .i64 m.uid) := (HR8.out.cell (by rw [add_block]; have := HBL.out; omega)).trans HH0.out
            cases hcn : Go.Lib.contains (vx.map lowB) (wl.map lowB) with
            | false =>
              rw [hcn] at HIT
              have HST : Hid (srchM (ms.take (k + 1)) nl wl = srchM (ms.take k) nl wl) := by show _ = _; rw [srchM_step hlt, HMM.out, HIT.out]; simp
              clear hcn
              go_wp2_with fail
              go_roundw
              case rel => exact ⟨k + 1, by omega, by go_num, by rw [HST.out]; exact HO8.out, HB8.out⟩
              case measure => simp [intOf]; omega
            | true =>
              rw [hcn] at HIT
              have HST : Hid (srchM (ms.take (k + 1)) nl wl = srchM (ms.take k) nl wl ++ [m.uid]) := by show _ = _; rw [srchM_step hlt, HMM.out, HIT.out]; simp
              clear hcn
              go_wp2_with (at_builtin; refine push_one elInt rfl _ _ rfl w.heap.size _ (srchM (ms.take k) nl wl).length _ rfl HO8.out [.int .i64 m.uid] _ rfl rfl rfl (by simp [Value.oneCell']) (by have := HSL.out; simp only [maxLen]; omega) (by have := HSL.out; omega) (by omega) ?_)
              intro v9 w9 hp
              have HP := Lib.hid hp.1
              have HB9 := Lib.hid (hp.below HO8.out HB8.out (by omega))
              obtain ⟨A9, n9, rfl, _⟩ := own_form hp.1
              clear hp
              go_wp2_with fail
              go_roundw
              case rel => exact ⟨k + 1, by omega, by go_num, by rw [HST.out, List.length_append, List.map_append]; exact HP.out, HB9.out⟩
              case measure => simp [intOf]; omega
    · have hkl : k = ms.length := by omega
      subst hkl
      rw [List.take_length] at ho HO
      clear hb
      (try simp only [List.take_length])
      go_wp2_with fail
      go_ret
      refine ⟨.slice A0 (srchM ms nl wl).length n0, ?_, HO.out, HB.out⟩
      first | rfl | simp [List.take_length]

/-! ### SearchMails -/
def bigB (m : Ml) : Bool := decide (85 < m.text.size)
set_option maxRecDepth 100000 in
theorem search1_any (m : Ml) (w : World) (hs : m.text.size ≤ maxLen) : Calls Tryd.prog 47 #[mlV m] w fun e w' => e = .returned (.bool (bigB m)) ∧ Below w.heap.size w w' := by
  obtain ⟨u, f, t⟩ := m
  unfold maxLen at hs
  simp only at hs
  go_enter Tryd.func47, Tryd.ntmps47
  go_wp2
  go_ret
  exact ⟨ret_b (by simp [bigB]; try omega), by repeat (first | exact Below.refl _ _ | assumption | refine Below.drew ?_ | refine below_drewN ?_ _ | refine Below.setCell ?_ (by first | exact Nat.le_refl _ | exact Below.size (by assumption) | (simp; done) | (simp; omega) | omega) _ | refine Below.alloc ?_ (by first | exact Nat.le_refl _ | exact Below.size (by assumption) | (simp; done) | (simp; omega) | omega) _)⟩
def IdxAll (b : Bool) (w : World) (e : Ending) (w' : World) : Prop := ∃ n : Int, e = .returned (.int .i64 n) ∧ decide (0 ≤ n) = b ∧ Below w.heap.size w w'
set_option maxRecDepth 100000 in
theorem indexMl_any (A : Option Addr) (c : Nat) (ms : List Ml) (w : World) (hx : Rd w w.heap.size A (flat encM ms)) (hs : ∀ m ∈ ms, m.text.size ≤ maxLen) (hl : ms.length ≤ 1048576) :
    Calls Tryd.prog 69 #[.slice A ms.length c, .func (.func 47) #[] #[]] w (IdxAll (ms.any bigB) w) := by
  have HX := Lib.hid hx
  have HS := Lib.hid hs
  clear hx hs
  go_enter Tryd.func69, Tryd.ntmps69
  go_wp2_with fail
  go_loopw [8] (fun i wr => ∃ k : Nat, k ≤ ms.length ∧ i = .int .i64 k ∧ (∀ m ∈ ms.take k, bigB m = false) ∧ Below w.heap.size w wr) (fun i _ => ms.length - (intOf i).toNat)
  case atStart => exact ⟨0, Nat.zero_le _, rfl, by simp, Below.refl _ _⟩
  case round =>
    obtain ⟨k, hk, rfl, hg, hb⟩ := hrel
    have HG := Lib.hid hg
    clear hg
    by_cases hlt : k < ms.length
    · obtain ⟨ad, rfl, hbl, h1, h2, h3⟩ := (HX.out.below hb).ml hlt
      have HSM := Lib.hid (HS.out _ (List.getElem_mem hlt))
      obtain ⟨m, hm⟩ : ∃ m, m = ms[k] := ⟨_, rfl⟩
      rw [← hm] at h1 h2 h3 HSM
      have HM := Lib.hid hm
      have HB := Lib.hid hb
      clear hm hb
      go_wp2_with fail
      refine (search1_any m _ HSM.out).mono ?_
      rintro e w2 ⟨rfl, hb2⟩
      have HB2 := Lib.hid (below_after HB.out hb2)
      clear hb2
      cases hok : bigB m with
      | false =>
        have HOK := Lib.hid hok
        clear hok
        go_wp2_with fail
        go_roundw
        case rel =>
          refine ⟨k + 1, hlt, by go_num, fun x hx => ?_, HB2.out⟩
          rw [List.take_succ_eq_append_getElem hlt, List.mem_append] at hx
          rcases hx with hx | hx
          · exact HG.out x hx
          · rw [List.mem_singleton.1 hx, ← HM.out]; exact HOK.out
        case measure => simp [intOf]; omega
      | true =>
        have HOK := Lib.hid hok
        clear hok
        go_wp2_with fail
        go_ret
        refine ⟨k, rfl, ?_, HB2.out⟩
        rw [decide_eq_true (by omega)]
        exact (List.any_eq_true.2 ⟨m, by rw [HM.out]; exact List.getElem_mem hlt, HOK.out⟩).symm
    · go_wp2_with fail
      go_ret
      refine ⟨-1, rfl, ?_, hb⟩
      rw [decide_eq_false (by omega)]
      symm
      rw [List.any_eq_false]
      intro m hm
      rw [HG.out m (by rwa [List.take_of_length_le (by omega)])]
      simp
theorem containsMl_any (A : Option Addr) (c : Nat) (ms : List Ml) (w : World) (hx : Rd w w.heap.size A (flat encM ms)) (hs : ∀ m ∈ ms, m.text.size ≤ maxLen) (hl : ms.length ≤ 1048576) :
    Calls Tryd.prog 46 #[.slice A ms.length c, .func (.func 47) #[] #[]] w fun e w' => e = .returned (.bool (ms.any bigB)) ∧ Below w.heap.size w w' := by
  have HC := Lib.hid (indexMl_any A c ms w hx hs hl)
  generalize (ms.any bigB) = b at HC ⊢
  clear hx hs
  go_enter Tryd.func46, Tryd.ntmps46
  go_wp2_with fail
  refine HC.out.mono ?_
  rintro e w1 ⟨n, rfl, hn, hb⟩
  have HB := Lib.hid hb
  have HN := Lib.hid hn
  clear hb hn
  go_wp2_with fail
  go_ret
  exact ⟨by rw [← HN.out]; rfl, HB.out⟩
noncomputable def smM (ms : List Ml) (nl wl : List UInt8) : List Int × Int := if 4096 < ms.length ∨ 65536 < nl.length ∨ 65536 < wl.length then ([], 2) else if 100 < ms.length then ([], 6) else if ms.any bigB = true then ([], 1) else (srchM ms nl wl, 0)
def SM (q : List Int × Int) (w : World) (e : Ending) (w' : World) : Prop := ∃ v, e = .returned (.tuple #[v, .int .i64 q.2]) ∧ w'.ownsRow w.heap.size 3 1 v q.1.length (q.1.map iv) ∧ Below w.heap.size w w'
theorem sm_bad {q : List Int × Int} {w w' : World} {v : Value} {n : Int} (h : q = ([], n)) (ho : w'.ownsRow w.heap.size 3 1 v 0 []) (hb : Below w.heap.size w w') : SM q w (.returned (.tuple #[v, .int .i64 n])) w' := by
  subst h
  exact ⟨v, rfl, ho, hb⟩
set_option maxRecDepth 100000 in
set_option maxHeartbeats 2000000 in
theorem implSearchMails_any (A : Option Addr) (c : Nat) (ms : List Ml) (nl wl : List UInt8) (w : World) (hx : Rd w w.heap.size A (flat encM ms)) (hml : ML w) (hl : ms.length ≤ 1048576) (hs : ∀ m ∈ ms, m.text.size ≤ 1048576) (hnl : nl.length ≤ 1048576) (hwl : wl.length ≤ 1048576) :
    Calls Tryd.prog 21 #[.slice A ms.length c, .string (bs nl), .string (bs wl)] w (SM (smM ms nl wl) w) := by
  have hs0 := bs_size nl
  have hs1 := bs_size wl
  have HX := Lib.hid hx
  have HS := Lib.hid hs
  have HML := Lib.hid hml
  clear hx hs hml
  by_cases h1 : 4096 < ms.length
  · have HN : Hid (smM ms nl wl = ([], 2)) := if_pos (.inl h1)
    go_enter Tryd.func21, Tryd.ntmps21
    go_wp2_with fail
    go_ret2
    exact sm_bad HN.out (own_nilRow _ _ _ _) (Below.refl _ _)
  by_cases h2 : 65536 < nl.length
  · have HN : Hid (smM ms nl wl = ([], 2)) := if_pos (.inr (.inl h2))
    go_enter Tryd.func21, Tryd.ntmps21
    go_wp2_with fail
    go_ret2
    exact sm_bad HN.out (own_nilRow _ _ _ _) (Below.refl _ _)
  by_cases h3 : 65536 < wl.length
  · have HN : Hid (smM ms nl wl = ([], 2)) := if_pos (.inr (.inr h3))
    go_enter Tryd.func21, Tryd.ntmps21
    go_wp2_with fail
    go_ret2
    exact sm_bad HN.out (own_nilRow _ _ _ _) (Below.refl _ _)
  by_cases h4 : 100 < ms.length
  · have HN : Hid (smM ms nl wl = ([], 6)) := by show smM ms nl wl = _; rw [smM, if_neg (by omega), if_pos h4]
    go_enter Tryd.func21, Tryd.ntmps21
    go_wp2_with fail
    go_ret2
    exact sm_bad HN.out (own_nilRow _ _ _ _) (Below.refl _ _)
  have HQ : Hid (smM ms nl wl = if ms.any bigB = true then ([], 1) else (srchM ms nl wl, 0)) := by show smM ms nl wl = _; rw [smM, if_neg (by omega), if_neg h4]
  have HC := Lib.hid (containsMl_any A c ms w HX.out (fun m hm => by have := HS.out m hm; simp only [maxLen]; omega) hl)
  go_enter Tryd.func21, Tryd.ntmps21
  go_wp2_with fail
  refine HC.out.mono ?_
  rintro e w1 ⟨rfl, hb1⟩
  have HB1 := Lib.hid hb1
  clear hb1 HC
  cases ha : ms.any bigB with
  | true =>
    have HN : Hid (smM ms nl wl = ([], 1)) := by show smM ms nl wl = _; rw [HQ.out, if_pos ha]
    clear ha
    go_wp2_with fail
    go_ret2
    exact sm_bad HN.out (own_nilRow _ _ _ _) HB1.out
  | false =>
    have HN : Hid (smM ms nl wl = (srchM ms nl wl, 0)) := by show smM ms nl wl = _; rw [HQ.out, if_neg (by rw [ha]; simp)]
    have HSC := Lib.hid (searched_any A c ms nl wl w1 (HX.out.next HB1.out) (HML.out.below HB1.out) (by omega) (fun m hm => by have := List.any_eq_false.1 ha m hm; simp [bigB] at this; omega) hnl hwl)
    clear ha
    go_wp2_with fail
    refine HSC.out.mono ?_
    rintro e w2 ⟨v, rfl, ho, hb2⟩
    have HO := Lib.hid (own_mono ho HB1.out.size)
    have HB2 := Lib.hid (below_after HB1.out hb2)
    clear ho hb2
    go_wp2_with fail
    go_ret2
    rw [HN.out]
    exact ⟨v, rfl, HO.out, HB2.out⟩
set_option maxRecDepth 100000 in
set_option maxHeartbeats 2000000 in
theorem specSearchMails_any (A : Option Addr) (c : Nat) (ms : List Ml) (nl wl : List UInt8) (w : World) (hx : Rd w w.heap.size A (flat encM ms)) (hl : ms.length ≤ 1048576) (hs : ∀ m ∈ ms, m.text.size ≤ 1048576) (hnl : nl.length ≤ 1048576) (hwl : wl.length ≤ 1048576) :
    Calls Tryd.prog 19 #[.slice A ms.length c, .string (bs nl), .string (bs wl)] w (SM (smM ms nl wl) w) := by
  have hs0 := bs_size nl
  have hs1 := bs_size wl
  have HX := Lib.hid hx
  have HS := Lib.hid hs
  clear hx hs
  by_cases h1 : 4096 < ms.length
  · have HN : Hid (smM ms nl wl = ([], 2)) := if_pos (.inl h1)
    go_enter Tryd.func19, Tryd.ntmps19
    go_wp2_with fail
    go_ret2
    exact sm_bad HN.out (own_empty_at (Nat.le_refl _) (heap_alloc_new _ _)) (by repeat (first | exact Below.refl _ _ | assumption | refine Below.drew ?_ | refine below_drewN ?_ _ | refine Below.setCell ?_ (by first | exact Nat.le_refl _ | exact Below.size (by assumption) | (simp; done) | (simp; omega) | omega) _ | refine Below.alloc ?_ (by first | exact Nat.le_refl _ | exact Below.size (by assumption) | (simp; done) | (simp; omega) | omega) _))
  by_cases h2 : 65536 < nl.length
  · have HN : Hid (smM ms nl wl = ([], 2)) := if_pos (.inr (.inl h2))
    go_enter Tryd.func19, Tryd.ntmps19
    go_wp2_with fail
    go_ret2
    exact sm_bad HN.out (own_empty_at (Nat.le_refl _) (heap_alloc_new _ _)) (by repeat (first | exact Below.refl _ _ | assumption | refine Below.drew ?_ | refine below_drewN ?_ _ | refine Below.setCell ?_ (by first | exact Nat.le_refl _ | exact Below.size (by assumption) | (simp; done) | (simp; omega) | omega) _ | refine Below.alloc ?_ (by first | exact Nat.le_refl _ | exact Below.size (by assumption) | (simp; done) | (simp; omega) | omega) _))
  by_cases h3 : 65536 < wl.length
  · have HN : Hid (smM ms nl wl = ([], 2)) := if_pos (.inr (.inr h3))
    go_enter Tryd.func19, Tryd.ntmps19
    go_wp2_with fail
    go_ret2
    exact sm_bad HN.out (own_empty_at (Nat.le_refl _) (heap_alloc_new _ _)) (by repeat (first | exact Below.refl _ _ | assumption | refine Below.drew ?_ | refine below_drewN ?_ _ | refine Below.setCell ?_ (by first | exact Nat.le_refl _ | exact Below.size (by assumption) | (simp; done) | (simp; omega) | omega) _ | refine Below.alloc ?_ (by first | exact Nat.le_refl _ | exact Below.size (by assumption) | (simp; done) | (simp; omega) | omega) _))
  by_cases h4 : 100 < ms.length
  · have HN : Hid (smM ms nl wl = ([], 6)) := by show smM ms nl wl = _; rw [smM, if_neg (by omega), if_pos h4]
    go_enter Tryd.func19, Tryd.ntmps19
    go_wp2_with fail
    go_ret2
    exact sm_bad HN.out (own_empty_at (Nat.le_refl _) (heap_alloc_new _ _)) (by repeat (first | exact Below.refl _ _ | assumption | refine Below.drew ?_ | refine below_drewN ?_ _ | refine Below.setCell ?_ (by first | exact Nat.le_refl _ | exact Below.size (by assumption) | (simp; done) | (simp; omega) | omega) _ | refine Below.alloc ?_ (by first | exact Nat.le_refl _ | exact Below.size (by assumption) | (simp; done) | (simp; omega) | omega) _))
  have HQ : Hid (smM ms nl wl = if ms.any bigB = true then ([], 1) else (srchM ms nl wl, 0)) := by show smM ms nl wl = _; rw [smM, if_neg (by omega), if_neg h4]
  go_enter Tryd.func19, Tryd.ntmps19
  go_wp2_with fail
  go_loop [8] (fun i => ∃ k : Nat, k ≤ ms.length ∧ i = .int .i64 k ∧ ∀ m ∈ ms.take k, bigB m = false) (fun i => ms.length - (intOf i).toNat)
  case atStart => exact ⟨0, Nat.zero_le _, rfl, by simp⟩
  case round =>
    obtain ⟨k, hk, rfl, hg⟩ := hrel
    have HG := Lib.hid hg
    clear hg
    by_cases hlt : k < ms.length
    · obtain ⟨ad, rfl, hbl, h0, h1', h2'⟩ := HX.out.ml hlt
      have HTK : Hid (ms.take (k + 1) = ms.take k ++ [ms[k]]) := List.take_succ_eq_append_getElem hlt
      have HMEM : Hid (ms[k] ∈ ms) := List.getElem_mem hlt
      have HT := Lib.hid (HS.out _ (List.getElem_mem hlt))
      obtain ⟨m, hm⟩ : ∃ m, m = ms[k] := ⟨_, rfl⟩
      rw [← hm] at h0 h1' h2' HTK HMEM HT
      have hts : m.text.size ≤ 1048576 := HT.out
      clear hm
      by_cases hbg : 85 < m.text.size
      · have HN : Hid (smM ms nl wl = ([], 1)) := by show smM ms nl wl = _; rw [HQ.out, if_pos (List.any_eq_true.2 ⟨m, HMEM.out, decide_eq_true hbg⟩)]
        go_wp2_with fail
        go_ret2
        exact sm_bad HN.out (own_empty_at (Nat.le_refl _) (heap_alloc_new _ _)) (by repeat (first | exact Below.refl _ _ | assumption | refine Below.drew ?_ | refine below_drewN ?_ _ | refine Below.setCell ?_ (by first | exact Nat.le_refl _ | exact Below.size (by assumption) | (simp; done) | (simp; omega) | omega) _ | refine Below.alloc ?_ (by first | exact Nat.le_refl _ | exact Below.size (by assumption) | (simp; done) | (simp; omega) | omega) _))
      · have HNB : Hid (bigB m = false) := decide_eq_false hbg
        go_wp2_with fail
        go_round
        case rel =>
          refine ⟨k + 1, by omega, by go_num, fun x hx => ?_⟩
          rw [HTK.out, List.mem_append] at hx
          rcases hx with hx | hx
          · exact HG.out x hx
          · rw [List.mem_singleton.1 hx]; exact HNB.out
        case measure => simp [intOf]; omega
    · have hal : ∀ m ∈ ms, bigB m = false := fun m hm => HG.out m (by rwa [List.take_of_length_le (by omega)])
      have HN : Hid (smM ms nl wl = (srchM ms nl wl, 0)) := by show smM ms nl wl = _; rw [HQ.out, if_neg (by rw [List.any_eq_false.2 (fun m hm => by rw [hal m hm]; simp)]; simp)]
      have HSC := Lib.hid (l08Search_any A c ms nl wl w HX.out (by omega) (fun m hm => by have := hal m hm; simp [bigB] at this; omega) hnl hwl)
      clear hal
      go_wp2_with fail
      refine HSC.out.mono ?_
      rintro e w2 ⟨v, rfl, ho, hb2⟩
      have HO := Lib.hid ho
      have HB2 := Lib.hid hb2
      clear ho hb2
      go_wp2_with fail
      go_ret2
      rw [HN.out]
      exact ⟨v, rfl, HO.out, HB2.out⟩
end Go.Proofs.YtlfnpnkpjdmonaaDoor
