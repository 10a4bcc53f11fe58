import Derived.Test.YtlfnpnkpjdmonaaDoorMsg2
set_option linter.unusedVariables false
set_option linter.unusedSimpArgs false
namespace Go.Proofs.YtlfnpnkpjdmonaaDoor
open Go.RowKit

/-! ### the program's parser -/
noncomputable def parI (l : List UInt8) : Option (List Pr × List UInt8) := if 85 < l.length then none else parM l
theorem msgPost_no {n : Nat} {o : Option (List Pr × List UInt8)} {w w' : World} (ho : o = none) (hb : Below w.heap.size w w') : MsgPost n o w (.returned (.tuple #[msgV none 0 0 ⟨#[]⟩, .bool false])) w' := by
  subst ho
  exact ⟨[], ⟨#[]⟩, none, 0, rfl, (fun p h => by cases h), ⟨Nat.zero_le _, Nat.zero_le _, by simp⟩, own_nilRow _ _ _ _, hb⟩
theorem bs_size (l : List UInt8) : (bs l).size = l.length := by simp [ByteArray.size]
theorem parM_end {l : List UInt8} {p : List Pr × List UInt8} (h : msgM [] l = some p) : parM l = if p.1.length ≤ 8 then some p else none := by rw [parM, h]
theorem msgPost_end {n : Nat} {fs : List Pr} {b : List UInt8} {A : Option Addr} {c : Nat} {w w' : World} (ho : w'.ownsRow w.heap.size 49 2 (.slice A fs.length c) fs.length (flat encP fs)) (hb : Below w.heap.size w w') (h1 : fs.length ≤ n) (h2 : (bs b).size ≤ n) (h3 : ∀ p ∈ fs, p.1.size ≤ n ∧ p.2.size ≤ n) :
    MsgPost n (if fs.length ≤ 8 then some (fs, b) else none) w (.returned (.tuple #[msgV A fs.length c (bs b), .bool (decide ((fs.length : Int) ≤ 8))])) w' := by
  refine ⟨fs, bs b, A, c, ?_, fun p hp => ?_, ⟨h1, h2, h3⟩, ho, hb⟩
  · by_cases h : fs.length ≤ 8
    · rw [if_pos h, decide_eq_true (by omega)]; rfl
    · rw [if_neg h, decide_eq_false (by omega)]; rfl
  · by_cases h : fs.length ≤ 8
    · rw [if_pos h] at hp; cases hp; exact ⟨rfl, rfl⟩
    · rw [if_neg h] at hp; cases hp
theorem cutS_len {sep : List UInt8} : ∀ {l : List UInt8} {p : List UInt8 × List UInt8}, cutS sep l = some p → p.1.length ≤ l.length ∧ p.2.length ≤ l.length
  | [], _, h => by cases h
  | x :: t, p, h => by
    rw [cutS] at h
    split at h
    · cases h; simp
    · rw [Option.map_eq_some_iff] at h
      obtain ⟨q, hq, rfl⟩ := h
      have := cutS_len hq
      simp
      omega
set_option maxRecDepth 100000 in
set_option maxHeartbeats 2000000 in
theorem parse_any (l : List UInt8) (w : World) (hm : ML w) (hl : l.length ≤ 4294967280) :
    Calls Tryd.prog 37 #[.string (bs l)] w (MsgPost l.length (parI l) w) := by
  have hs0 := bs_size l
  by_cases h85 : 85 < l.length
  · have HN : Hid (parI l = none) := if_pos h85
    have HM0 := Lib.hid (MB.start w)
    obtain ⟨r0, r1, r2, r3, r4, r5⟩ := HM0.out.cells
    have HO := Lib.hid (HM0.out.out (.slice none 0 0) (.string ⟨#[]⟩))
    go_enter Tryd.func37, Tryd.ntmps37
    go_wp2_with fail
    refine bodyPost_ret (v := .tuple #[msgV none 0 0 ⟨#[]⟩, .bool false]) (by simp [results, Tryd.results37, go_sem, *]) rfl (msgPost_no HN.out (by first | exact HO.out.2.2.2 | (repeat (first | exact Below.refl _ _ | assumption | refine Below.drew ?_ | refine below_drewN ?_ _ | refine Below.setCell ?_ (by first | exact Nat.le_refl _ | exact Below.size (by assumption) | (simp; done) | (simp; omega) | omega) _ | refine Below.alloc ?_ (by first | exact Nat.le_refl _ | exact Below.size (by assumption) | (simp; done) | (simp; omega) | omega) _))))
  have HP : Hid (parI l = parM l) := if_neg h85
  have HM0 := Lib.hid (MB.start w)
  have HML := Lib.hid hm
  clear hm
  go_enter Tryd.func37, Tryd.ntmps37
  go_wp2_with fail
  go_loopw [0] (fun t wr => ∃ (l' : List UInt8) (fs : List Pr) (v : Value), t = .string (bs l') ∧ msgM [] l = msgM fs l' ∧ fs.length + l'.length ≤ l.length ∧ (∀ p ∈ fs, p.1.size ≤ l.length ∧ p.2.size ≤ l.length) ∧ MB w wr v fs) (fun t _ => lenOf' t)
  case atStart => exact ⟨l, [], .slice none 0 0, rfl, rfl, by simp, by simp, HM0.out⟩
  case round =>
    obtain ⟨l', fs, v, rfl, he, hn, hz, hmb⟩ := hrel
    have HE := Lib.hid he
    have HZ := Lib.hid hz
    have HMB := Lib.hid hmb
    have HN := Lib.hid hn
    have hl' : l'.length ≤ 85 := by omega
    have hml := HML.out.below hmb.below
    clear he hz hmb hn HM0 hs0
    cases hc : cut1 10 l' with
    | none =>
      have HPN : Hid (parM l = none) := by show parM l = none; rw [parM, HE.out, msgM_none hc]
      have HC := Lib.hid (fun W hW => cut_none (sep := [10]) ((cutS_one 10 l').trans hc) (by simp) W hW (by omega))
      clear hc
      go_wp2_with fail
      refine (HC.out _ hml).mono ?_
      rintro e w2 ⟨rfl, hb2⟩
      have HM2 := Lib.hid (HMB.out.old hb2)
      obtain ⟨r0, r1, r2, r3, r4, r5⟩ := HM2.out.cells
      have HO := Lib.hid (HM2.out.out (.slice none 0 0) (.string ⟨#[]⟩))
      clear hb2 hml HC
      go_wp2_with fail
      generalize (w2.setCell ⟨w.heap.size, 0, none⟩ (.slice none 0 0)).setCell ⟨w.heap.size, 1, none⟩ (.string ⟨#[]⟩) = W5 at HO ⊢
      obtain ⟨z0, z1, ho, hb⟩ := HO.out
      refine bodyPost_ret (v := .tuple #[msgV none 0 0 ⟨#[]⟩, .bool false]) (by simp [results, Tryd.results37, go_sem, z0, z1]) rfl (msgPost_no (by rw [HP.out]; exact HPN.out) hb)
    | some p =>
      obtain ⟨ln, rest⟩ := p
      have hlen := cut1_len hc
      have HC := Lib.hid (fun W hW => cut_some (sep := [10]) ((cutS_one 10 l').trans hc) (by simp) W hW (by omega))
      have HST := Lib.hid (msgM_some (fs := fs) hc)
      clear hc
      go_wp2_with fail
      refine (HC.out _ hml).mono ?_
      rintro e w2 ⟨rfl, hb2⟩
      have HM2 := Lib.hid (HMB.out.old hb2)
      have hml2 := hml.below hb2
      clear hb2 HC
      by_cases hln : ln = []
      · have HR : Hid (msgM [] l = some (fs, rest)) := by show msgM [] l = _; rw [HE.out, HST.out, if_pos hln]
        subst hln
        obtain ⟨r0, r1, r2, r3, r4, r5⟩ := HM2.out.cells
        have HO := Lib.hid (HM2.out.body (.string (bs rest)))
        clear hml hml2
        go_wp2_with fail
        generalize w2.setCell ⟨w.heap.size + 1, 1, none⟩ (.string (bs rest)) = W4 at HO ⊢
        obtain ⟨y0, y1, y2, y3, y4, hx⟩ := HO.out
        have HX := Lib.hid hx
        obtain ⟨A, c, rfl, _⟩ := own_form HM2.out.own
        clear r0 r1 r2 r3 r4 r5 hx HO
        go_region
        have HX2 := Lib.hid (HX.out (.slice A fs.length c) (.string (bs rest)))
        go_wp2_with fail
        generalize (W4.setCell ⟨w.heap.size, 0, none⟩ (.slice A fs.length c)).setCell ⟨w.heap.size, 1, none⟩ (.string (bs rest)) = W5 at HX2 ⊢
        obtain ⟨z0, z1, ho, hb⟩ := HX2.out
        refine bodyPost_ret (v := .tuple #[msgV A fs.length c (bs rest), .bool (decide ((fs.length : Int) ≤ 8))]) (by simp [results, Tryd.results37, go_sem, z0, z1]) rfl ?_
        rw [HP.out, parM_end HR.out]
        have h0 : ([] : List UInt8).length = 0 := rfl
        exact msgPost_end (n := l.length) (fs := fs) (b := rest) ho.drew hb.drew (by have := HN.out; omega) (by rw [bs_size]; have := HN.out; omega) HZ.out
      · have hie : ln.isEmpty = false := by cases ln with | nil => exact absurd rfl hln | cons => rfl
        have HSL : Hid (msgM [] l = match lineM ln with | none => none | some f => msgM (fs ++ [f]) rest) := (HE.out.trans HST.out).trans (if_neg hln)
        clear hln HST
        cases hd : cutS [58, 32] ln with
        | none =>
          have HPN : Hid (parM l = none) := by show parM l = none; rw [parM, HSL.out, lineM_impl, hd]
          have HC := Lib.hid (fun W hW => cut_none hd (by simp) W hW (by omega))
          clear hd HSL
          go_wp2_with fail
          refine (HC.out _ hml2).mono ?_
          rintro e w3 ⟨rfl, hb3⟩
          have HM4 := Lib.hid ((HM2.out.old hb3).old ((Below.refl _ _).alloc (Nat.le_refl _) (.cells #[.string (bs ln), .string (bs [])] 49)))
          obtain ⟨r0, r1, r2, r3, r4, r5⟩ := HM4.out.cells
          have HO := Lib.hid (HM4.out.out (.slice none 0 0) (.string ⟨#[]⟩))
          clear hb3 hml hml2 HC
          go_wp2_with fail
          generalize ((w3.alloc (.cells #[.string (bs ln), .string (bs [])] 49)).setCell ⟨w.heap.size, 0, none⟩ (.slice none 0 0)).setCell ⟨w.heap.size, 1, none⟩ (.string ⟨#[]⟩) = W5 at HO ⊢
          obtain ⟨z0, z1, ho, hb⟩ := HO.out
          refine bodyPost_ret (v := .tuple #[msgV none 0 0 ⟨#[]⟩, .bool false]) (by simp [results, Tryd.results37, go_sem, z0, z1]) rfl (msgPost_no (by rw [HP.out]; exact HPN.out) hb)
        | some q =>
          obtain ⟨nm, vl⟩ := q
          have hql := cutS_len hd
          have HC := Lib.hid (fun W hW => cut_some hd (by simp) W hW (by omega))
          have HLM : Hid (lineM ln = if lineB nm vl = true then some (bs nm, bs vl) else none) := by show lineM ln = _; rw [lineM_impl, hd]
          have HLO := Lib.hid (fun W => lineOK_any (bs nm) (bs vl) W (by rw [bs_size]; simp only at hql; omega) (by rw [bs_size]; simp only at hql; omega))
          have HQL := Lib.hid hql
          clear hd hql
          go_wp2_with fail
          refine (HC.out _ hml2).mono ?_
          rintro e w3 ⟨rfl, hb3⟩
          have HM4 := Lib.hid ((HM2.out.old hb3).old ((Below.refl _ _).alloc (Nat.le_refl _) (.cells #[.string (bs nm), .string (bs vl)] 49)))
          clear hb3 hml hml2 HC
          go_wp2_with fail
          refine (HLO.out _).mono ?_
          rintro e w5 ⟨rfl, hb5⟩
          have HM5 := Lib.hid (HM4.out.old hb5)
          obtain ⟨r0, r1, r2, r3, r4, r5⟩ := HM5.out.cells
          have f0 : w5.cell? ⟨w3.heap.size, 0, none⟩ = some (.string (bs nm)) := (hb5.cell (by show w3.heap.size < _; simp)).trans (by simp [go_sem])
          have f1 : w5.cell? ⟨w3.heap.size, 1, none⟩ = some (.string (bs vl)) := (hb5.cell (by show w3.heap.size < _; simp)).trans (by simp [go_sem])
          cases hok : lineB nm vl with
          | false =>
            have HPN : Hid (parM l = none) := by show parM l = none; rw [parM, HSL.out, HLM.out, hok]; rfl
            have HO := Lib.hid (HM5.out.out (.slice none 0 0) (.string ⟨#[]⟩))
            clear hb5
            go_wp2_with fail
            generalize (w5.setCell ⟨w.heap.size, 0, none⟩ (.slice none 0 0)).setCell ⟨w.heap.size, 1, none⟩ (.string ⟨#[]⟩) = W5 at HO ⊢
            obtain ⟨z0, z1, ho, hb⟩ := HO.out
            refine bodyPost_ret (v := .tuple #[msgV none 0 0 ⟨#[]⟩, .bool false]) (by simp [results, Tryd.results37, go_sem, z0, z1]) rfl (msgPost_no (by rw [HP.out]; exact HPN.out) hb)
          | true =>
            have HNX : Hid (msgM [] l = msgM (fs ++ [(bs nm, bs vl)]) rest) := by show msgM [] l = _; rw [HSL.out, HLM.out, hok]; rfl
            have hfl : fs.length ≤ 85 := by have := HN.out; omega
            have hlt5 := HM5.out.lt
            clear hb5 HSL HLM hok
            go_wp2_with (at_builtin; refine push_one elField rfl _ _ rfl (w.heap.size + 2) v fs.length (flat encP fs) rfl HM5.out.own [.string (bs nm), .string (bs vl)] _ rfl rfl rfl (by simp [Value.oneCell']) (by simp only [maxLen]; omega) (by omega) (by omega) ?_)
            intro v6 w6 hp6
            obtain ⟨A6, c6, rfl, _⟩ := own_form hp6.1
            have HM6 := Lib.hid (HM5.out.push (f := (bs nm, bs vl)) hp6 rfl)
            obtain ⟨s0, s1⟩ := HM5.out.pushedCells hp6
            clear hp6 r0 r1 r2 r3 r4 r5 f0 f1
            go_wp2_with fail
            go_roundw
            case rel =>
              refine ⟨rest, fs ++ [(bs nm, bs vl)], _, rfl, HNX.out, ?_, ?_, HM6.out⟩
              · have := HN.out; simp; omega
              · intro p hp
                have hq := HQL.out
                have := HN.out
                rw [List.mem_append] at hp
                rcases hp with hp | hp
                · exact HZ.out p hp
                · rw [List.mem_singleton.1 hp, bs_size, bs_size]
                  exact ⟨by omega, by omega⟩
            case measure => simp only [lenOf', bs_size]; omega
end Go.Proofs.YtlfnpnkpjdmonaaDoor
