import Derived.Test.YtlfnpnkpjdmonaaDoorMsg9
set_option linter.unusedVariables false
set_option linter.unusedSimpArgs false
namespace Go.Proofs.YtlfnpnkpjdmonaaDoor
open Go.RowKit

/-! ### a field asked for, both sides -/
set_option maxRecDepth 100000 in
set_option maxHeartbeats 1000000 in
theorem field_any (gm : Nat) (A : Option Addr) (c : Nat) (fs : List Pr) (b : ByteArray) (nl : List UInt8) (w : World) (hx : Rd w w.heap.size A (flat encP fs)) (hm : w.heap[gm]? = some (.cells #[.slice A fs.length c, .string b] 28 (0, 0))) (hn : nl.length ≤ 1048576) (hs : ∀ p ∈ fs, p.1.size ≤ 1048576) (hl : fs.length ≤ 1048576) :
    Calls Tryd.prog 39 #[.pointer (some ⟨gm, 0, none⟩), .string (bs nl)] w fun e w' => e = .returned (.tuple #[.string (fieldR fs nl).1, .bool (fieldR fs nl).2]) ∧ Below w.heap.size w w' := by
  have hgl : gm < w.heap.size := (Array.getElem?_eq_some_iff.1 hm).1
  have hb0 : Below w.heap.size w (w.alloc (.cells #[.string (bs nl)] 9)) := by repeat (first | exact Below.refl _ _ | assumption | refine Below.drew ?_ | refine below_drewN ?_ _ | refine Below.setCell ?_ (by first | exact Nat.le_refl _ | exact Below.size (by assumption) | (simp; done) | (simp; omega) | omega) _ | refine Below.alloc ?_ (by first | exact Nat.le_refl _ | exact Below.size (by assumption) | (simp; done) | (simp; omega) | omega) _)
  obtain ⟨m0, m1, _⟩ := row_cells hm
  have HM := Lib.hid hm
  have HX := Lib.hid hx
  have HB0 := Lib.hid hb0
  have HI := Lib.hid (indexField_any A c fs nl w.heap.size (w.alloc (.cells #[.string (bs nl)] 9)) (hx.next hb0) (by simp [go_sem]) hn hs hl)
  clear hx hm hb0 m1
  go_enter Tryd.func39, Tryd.ntmps39
  go_wp2_with fail
  refine HI.out.mono ?_
  rintro e w2 ⟨n, rfl, hn2, hb2⟩
  have HB2 := Lib.hid (below_after HB0.out hb2)
  clear hb2 HI m0
  rcases hn2 with ⟨rfl, hf⟩ | ⟨k, hk, rfl, hf⟩
  · have HF := Lib.hid hf
    clear hf
    go_wp2_with fail
    go_ret2
    exact ⟨by rw [HF.out]; rfl, HB2.out⟩
  · have HF := Lib.hid hf
    obtain ⟨k0, _, _⟩ := row_cells ((HB2.out.block _ hgl).trans HM.out)
    obtain ⟨ad, rfl, hbl, h1, h2⟩ := (HX.out.below HB2.out).pr hk
    have HKK := Lib.hid hk
    clear hf h1
    generalize fs[k] = m at h2 HF
    go_wp2_with fail
    go_ret2
    exact ⟨by rw [HF.out]; rfl, HB2.out⟩
set_option maxRecDepth 100000 in
set_option maxHeartbeats 2000000 in
theorem l08Field_any (A : Option Addr) (c : Nat) (fs : List Pr) (b : ByteArray) (nl : List UInt8) (w : World) (hx : Rd w w.heap.size A (flat encP fs)) (hn : nl.length ≤ 1048576) (hs : ∀ p ∈ fs, p.1.size ≤ 1048576) (hl : fs.length ≤ 1048576) :
    Calls Tryd.prog 38 #[msgV A fs.length c b, .string (bs nl)] w fun e w' => e = .returned (.tuple #[.string (fieldR fs nl).1, .bool (fieldR fs nl).2]) ∧ Below w.heap.size w w' := by
  have hb0 : Below w.heap.size w (w.alloc (.cells #[.slice A fs.length c, .string b] 28)) := by repeat (first | exact Below.refl _ _ | assumption | refine Below.drew ?_ | refine below_drewN ?_ _ | refine Below.setCell ?_ (by first | exact Nat.le_refl _ | exact Below.size (by assumption) | (simp; done) | (simp; omega) | omega) _ | refine Below.alloc ?_ (by first | exact Nat.le_refl _ | exact Below.size (by assumption) | (simp; done) | (simp; omega) | omega) _)
  have hr0 : (w.alloc (.cells #[.slice A fs.length c, .string b] 28)).heap[w.heap.size]? = some (.cells #[.slice A fs.length c, .string b] 28 (0, 0)) := heap_alloc_new _ _
  have hsz0 : (w.alloc (.cells #[.slice A fs.length c, .string b] 28)).heap.size = w.heap.size + 1 := by simp
  have HX := Lib.hid hx
  have HS := Lib.hid hs
  have HB0 := Lib.hid hb0
  have HR0 := Lib.hid hr0
  have HSZ := Lib.hid hsz0
  have HL2 := Lib.hid (fun W => l08Small_any nl W hn)
  clear hx hs hb0 hr0 hsz0
  go_enter Tryd.func38, Tryd.ntmps38
  go_wp2_with fail
  go_loopw [6] (fun i wr => ∃ k : Nat, k ≤ fs.length ∧ i = .int .i64 k ∧ (∀ p ∈ fs.take k, sameL p.1.data.toList nl = false) ∧ wr.heap[w.heap.size]? = some (.cells #[.slice A fs.length c, .string b] 28 (0, 0)) ∧ Below w.heap.size w wr) (fun i _ => fs.length - (intOf i).toNat)
  case atStart => exact ⟨0, Nat.zero_le _, rfl, by simp, HR0.out, HB0.out⟩
  case round =>
    obtain ⟨k, hk, rfl, hg, hr, hb⟩ := hrel
    have HK := Lib.hid hg
    have HR := Lib.hid hr
    have HB := Lib.hid hb
    obtain ⟨k0, k1, _⟩ := row_cells hr
    have hlw : w.heap.size < wr.heap.size := (Array.getElem?_eq_some_iff.1 hr).1
    clear hg hr k1
    by_cases hlt : k < fs.length
    · obtain ⟨ad, rfl, hbl, h1, h2⟩ := (HX.out.below hb).pr hlt
      have HA1 : Hid (∀ W : World, Calls Tryd.prog 63 #[.string fs[k].1] W fun e w' => e = .returned (.string (bs (fs[k].1.data.toList.map lowB))) ∧ Below W.heap.size W w') := fun W => by
        have h := l08Small_any fs[k].1.data.toList W (by have := HS.out _ (List.getElem_mem hlt); simpa using this)
        rw [← bs_eta' fs[k].1] at h
        exact h
      have HAT := Lib.hid (fun h => fieldR_at (nl := nl) hlt h HK.out)
      have HTK : Hid (fs.take (k + 1) = fs.take k ++ [fs[k]]) := List.take_succ_eq_append_getElem hlt
      obtain ⟨m, hm⟩ : ∃ m, m = fs[k] := ⟨_, rfl⟩
      rw [← hm] at h1 h2 HA1 HTK
      have HM := Lib.hid hm
      have HSM : Hid (sameL m.1.data.toList nl = (m.1.data.toList.map lowB == nl.map lowB)) := rfl
      generalize hgx : m.1.data.toList.map lowB = x at HA1 HSM
      generalize hgy : nl.map lowB = y at HL2 HSM
      have HBL := Lib.hid hbl
      have HH2 := Lib.hid h2
      clear hm hb hgx hgy h2
      go_wp2_with fail
      refine (HA1.out _).mono ?_
      rintro e w2 ⟨rfl, hb2⟩
      have HB2 := Lib.hid hb2
      have hs2 := hb2.size
      clear hb2 k0 h1
      go_wp2_with fail
      refine (HL2.out _).mono ?_
      rintro e w3 ⟨rfl, hb3⟩
      have HB3 := Lib.hid (below_after HB2.out hb3)
      have hs3 := hb3.size
      clear hb3
      have hr3 := (HB3.out.block _ hlw).trans HR.out
      obtain ⟨k0, k1, _⟩ := row_cells hr3
      have HR3 := Lib.hid hr3
      have h2 : w3.cell? ⟨(ad.add (k * 2)).block, (ad.add (k * 2)).off + 1, none⟩ = some (.string m.2) := (HB3.out.cell (p := ⟨_, _, none⟩) (by show (ad.add (k * 2)).block < _; rw [add_block]; have := HBL.out; omega)).trans HH2.out
      have hlw3 : w.heap.size < w3.heap.size := by omega
      clear hr3 k1
      cases hok : (x == y) with
      | false =>
        have HOK : Hid (sameL m.1.data.toList nl = false) := HSM.out.trans hok
        clear h2
        go_wp2_with fail
        go_roundw
        case rel =>
          refine ⟨k + 1, hlt, by go_num, fun p hp => ?_, HR3.out, below_after HB.out HB3.out⟩
          rw [HTK.out, List.mem_append] at hp
          rcases hp with hp | hp
          · exact HK.out p hp
          · rw [List.mem_singleton.1 hp]; exact HOK.out
        case measure => simp [intOf]; omega
      | true =>
        have HOK : Hid (sameL m.1.data.toList nl = true) := HSM.out.trans hok
        go_wp2_with fail
        go_ret2
        have e := HAT.out (by rw [← HM.out]; exact HOK.out)
        rw [← HM.out] at e
        exact ⟨by rw [e]; rfl, below_after HB.out HB3.out⟩
    · have HF := Lib.hid (fieldR_none (nl := nl) (fs := fs) fun p hp => HK.out p (by rwa [List.take_of_length_le (by omega)]))
      clear hb
      go_wp2_with fail
      go_ret2
      exact ⟨by rw [HF.out]; rfl, HB.out⟩

/-! ### FieldOf -/
noncomputable def foM (l nl : List UInt8) : ByteArray × Int := if 65536 < l.length ∨ 65536 < nl.length then (⟨#[]⟩, 2) else match parI l with | none => (⟨#[]⟩, 3) | some p => if (fieldR p.1 nl).2 = true then ((fieldR p.1 nl).1, 0) else (⟨#[]⟩, 5)
def FO (r : ByteArray × Int) (w : World) (e : Ending) (w' : World) : Prop := e = .returned (.tuple #[.string r.1, .int .i64 r.2]) ∧ Below w.heap.size w w'
theorem fo_of {r : ByteArray × Int} {w w' : World} {s : ByteArray} {n : Int} (h : r = (s, n)) (hb : Below w.heap.size w w') : FO r w (.returned (.tuple #[.string s, .int .i64 n])) w' := by
  subst h
  exact ⟨rfl, hb⟩
set_option maxRecDepth 100000 in
set_option maxHeartbeats 2000000 in
theorem implFieldOf_any (l nl : List UInt8) (w : World) (hml : ML w) (hl : l.length ≤ 1048576) (hnl : nl.length ≤ 1048576) :
    Calls Tryd.prog 12 #[.string (bs l), .string (bs nl)] w (FO (foM l nl) w) := by
  have hs0 := bs_size l
  have hs1 := bs_size nl
  by_cases h1 : 65536 < l.length
  · have HN : Hid (foM l nl = (⟨#[]⟩, 2)) := if_pos (.inl h1)
    go_enter Tryd.func12, Tryd.ntmps12
    go_wp2_with fail
    go_ret2
    exact fo_of HN.out (Below.refl _ _)
  by_cases h2 : 65536 < nl.length
  · have HN : Hid (foM l nl = (⟨#[]⟩, 2)) := if_pos (.inr h2)
    go_enter Tryd.func12, Tryd.ntmps12
    go_wp2_with fail
    go_ret2
    exact fo_of HN.out (Below.refl _ _)
  have HQ : Hid (foM l nl = match parI l with | none => (⟨#[]⟩, 3) | some p => if (fieldR p.1 nl).2 = true then ((fieldR p.1 nl).1, 0) else (⟨#[]⟩, 5)) := if_neg (by omega)
  have HC := Lib.hid (parse_any l w hml (by omega))
  clear hml
  go_enter Tryd.func12, Tryd.ntmps12
  go_wp2_with fail
  refine HC.out.mono ?_
  rintro e w1 ⟨fs, b, A, c, rfl, hp, hz, ho, hb⟩
  have HP := Lib.hid hp
  have HB1 := Lib.hid hb
  have HZ := Lib.hid hz
  have HBX : Hid (Below w.heap.size w (w1.alloc (.cells #[.slice A fs.length c, .string b] 28))) := by show Below _ _ _; exact hb.alloc hb.size _
  have HFD := Lib.hid (field_any w1.heap.size A c fs b nl (w1.alloc (.cells #[.slice A fs.length c, .string b] 28)) ((Rd.own ho).next ((Below.refl _ _).alloc (Nat.le_refl _) _)) (heap_alloc_new _ _) hnl (fun p hp => by have := (hz.2.2 p hp).1; omega) (by omega))
  clear hp hz ho hb HC
  cases he : parI l with
  | none =>
    have HE := Lib.hid he
    simp only [Option.isSome_none]
    clear he
    go_wp2_with fail
    go_ret2
    exact fo_of (by rw [HQ.out, HE.out]) HBX.out
  | some p =>
    rw [he] at HP
    obtain ⟨e1, e2⟩ := HP.out p rfl
    have HE : Hid (foM l nl = if (fieldR fs nl).2 = true then ((fieldR fs nl).1, 0) else (⟨#[]⟩, 5)) := by show foM l nl = _; rw [HQ.out, he]; simp only [e1]
    simp only [Option.isSome_some]
    clear he e1 e2
    generalize fieldR fs nl = r at HFD HE
    obtain ⟨rv, rb⟩ := r
    go_wp2_with fail
    refine HFD.out.mono ?_
    rintro e w2 ⟨rfl, hb2⟩
    have HB2 := Lib.hid (below_after HBX.out hb2)
    clear hb2 HFD
    cases rb with
    | false =>
      go_wp2_with fail
      go_ret2
      exact fo_of (by rw [HE.out]; rfl) HB2.out
    | true =>
      go_wp2_with fail
      go_ret2
      exact fo_of (by rw [HE.out]; rfl) HB2.out
set_option maxRecDepth 100000 in
set_option maxHeartbeats 2000000 in
theorem specFieldOf_any (l nl : List UInt8) (w : World) (hl : l.length ≤ 1048576) (hnl : nl.length ≤ 1048576) :
    Calls Tryd.prog 11 #[.string (bs l), .string (bs nl)] w (FO (foM l nl) w) := by
  have hs0 := bs_size l
  have hs1 := bs_size nl
  by_cases h1 : 65536 < l.length
  · have HN : Hid (foM l nl = (⟨#[]⟩, 2)) := if_pos (.inl h1)
    go_enter Tryd.func11, Tryd.ntmps11
    go_wp2_with fail
    go_ret2
    exact fo_of HN.out (Below.refl _ _)
  by_cases h2 : 65536 < nl.length
  · have HN : Hid (foM l nl = (⟨#[]⟩, 2)) := if_pos (.inr h2)
    go_enter Tryd.func11, Tryd.ntmps11
    go_wp2_with fail
    go_ret2
    exact fo_of HN.out (Below.refl _ _)
  have HQ : Hid (foM l nl = match parI l with | none => (⟨#[]⟩, 3) | some p => if (fieldR p.1 nl).2 = true then ((fieldR p.1 nl).1, 0) else (⟨#[]⟩, 5)) := if_neg (by omega)
  have HC := Lib.hid (l08Parse_any l w hl)
  go_enter Tryd.func11, Tryd.ntmps11
  go_wp2_with fail
  refine HC.out.mono ?_
  rintro e w1 ⟨fs, b, A, c, rfl, hp, hz, ho, hb⟩
  have HP := Lib.hid hp
  have HB1 := Lib.hid hb
  have HZ := Lib.hid hz
  have HBX : Hid (Below w.heap.size w (w1.alloc (.cells #[.slice A fs.length c, .string b] 28))) := by show Below _ _ _; exact hb.alloc hb.size _
  have HFD := Lib.hid (l08Field_any A c fs b nl (w1.alloc (.cells #[.slice A fs.length c, .string b] 28)) ((Rd.own ho).next ((Below.refl _ _).alloc (Nat.le_refl _) _)) hnl (fun p hp => by have := (hz.2.2 p hp).1; omega) (by omega))
  clear hp hz ho hb HC
  cases he : parM l with
  | none =>
    have HE : Hid (parI l = none) := by show parI l = _; rw [parI, he]; split <;> rfl
    simp only [Option.isSome_none]
    clear he
    go_wp2_with fail
    go_ret2
    exact fo_of (by rw [HQ.out, HE.out]) HBX.out
  | some p =>
    by_cases h85 : 85 < l.length
    · have HE : Hid (parI l = none) := if_pos h85
      simp only [Option.isSome_some]
      clear he
      go_wp2_with fail
      go_ret2
      exact fo_of (by rw [HQ.out, HE.out]) HBX.out
    rw [he] at HP
    obtain ⟨e1, e2⟩ := HP.out p rfl
    have HE : Hid (foM l nl = if (fieldR fs nl).2 = true then ((fieldR fs nl).1, 0) else (⟨#[]⟩, 5)) := by show foM l nl = _; rw [HQ.out, parI, if_neg h85, he]; simp only [e1]
    simp only [Option.isSome_some]
    clear he e1 e2
    generalize fieldR fs nl = r at HFD HE
    obtain ⟨rv, rb⟩ := r
    go_wp2_with fail
    refine HFD.out.mono ?_
    rintro e w2 ⟨rfl, hb2⟩
    have HB2 := Lib.hid (below_after HBX.out hb2)
    clear hb2 HFD
    cases rb with
    | false =>
      go_wp2_with fail
      go_ret2
      exact fo_of (by rw [HE.out]; rfl) HB2.out
    | true =>
      go_wp2_with fail
      go_ret2
      exact fo_of (by rw [HE.out]; rfl) HB2.out
end Go.Proofs.YtlfnpnkpjdmonaaDoor
