import Derived.Test.YtlfnpnkpjdmonaaBkOK
set_option linter.unusedVariables false
set_option linter.unusedSimpArgs false
namespace Go.Proofs.Ytlfnpnkpjdmonaa
open Go.RowKit

/-! ### the reference: a backup that is right, at whatever backup -/
theorem callsQuiet {P : Program} {f : FuncId} {args : Array Value} {w : World} {n : Nat} {v : Value} (h : Calls P f args (w.drewN n) fun e w' => e = .returned v ∧ w.drewN n = w') : Calls P f args (w.drewN n) fun e w'' => e = .returned v ∧ ∃ m, w'' = w.drewN m := h.mono fun _ _ ⟨he, hm⟩ => ⟨he, n, hm.symm⟩
theorem shortA_nil : shortA ⟨#[]⟩ = false := by decide +kernel
set_option maxRecDepth 100000 in
set_option maxHeartbeats 8000000 in
theorem specBackupOK_e (f t : ByteArray) (ch : Int) (D : Option Addr) (ds : List Df) (dc : Nat) (sm : Int) (w : World) (hx : Rd w w.heap.size D (flat encD ds)) (hf : f.size ≤ maxLen) (ht : t.size ≤ maxLen) (hs : ∀ d ∈ ds, DSz d) (hh : headB f t ch = true) (hsm : withinB sm 0 4294967295 = true) (hl : ds.length ≤ 120) (hf0 : f = ⟨#[]⟩) (hc0 : ch = 0) :
    Calls Try.prog 147 #[bkV f t ch D ds.length dc sm] w fun e w' => e = .returned (.bool (okDs ds)) ∧ Below w.heap.size w w' := by
  generalize hr : okDs ds = r
  have HR := Lib.hid hr
  have HX := Lib.hid hx
  have HS := Lib.hid hs
  have hb0 : Below w.heap.size w (w.alloc (.cells #[.string f, .string t, .int .i64 ch, .slice D ds.length dc, .int .i64 sm] 86)) := by repeat (first | exact Below.refl _ _ | assumption | refine Below.drew ?_ | refine below_drewN ?_ _ | refine Below.setCell ?_ (by first | exact Nat.le_refl _ | exact Below.size (by assumption) | (simp; done) | (simp; omega) | omega) _ | refine Below.alloc ?_ (by first | exact Nat.le_refl _ | exact Below.size (by assumption) | (simp; done) | (simp; omega) | omega) _)
  have e0 : (w.alloc (.cells #[.string f, .string t, .int .i64 ch, .slice D ds.length dc, .int .i64 sm] 86)).heap[w.heap.size]? = some (.cells #[.string f, .string t, .int .i64 ch, .slice D ds.length dc, .int .i64 sm] 86 (0, 0)) := heap_alloc_new _ _
  have HB0 := Lib.hid (And.intro hb0 e0)
  have HT1 := Lib.hid (fun W => l04Name_any t W ht)
  have HF1 := Lib.hid (fun W => l04Name_any f W hf)
  have HC1 := Lib.hid (fun W => in_any ch 0 4294967295 W)
  have HS1 := Lib.hid (fun W => in_any sm 0 4294967295 W)
  rw [show shortB t.data.toList = shortA t from rfl] at HT1
  rw [show shortB f.data.toList = shortA f from rfl] at HF1
  simp only [headB, Bool.and_eq_true, Bool.or_eq_true, decide_eq_true_eq] at hh
  obtain ⟨⟨hh1, hh2⟩, hh3⟩ := hh
  rw [hh2] at HT1
  rw [hh3] at HC1
  rw [hsm] at HS1
  clear hr hx hs hb0 e0 hf ht hh1 hh2 hh3 hsm
  have HEAD : Hid (∀ K : Prop, True) := fun _ => trivial
  clear HEAD
  have e1 : f.toList.isEmpty = true := by rw [hf0, ByteArray.toList_eq]; rfl
  have z1 : (ch == 0) = true := by rw [hc0]; simp
  have z2 : (ch != 0) = false := by rw [hc0]; simp
  clear hf0 hc0
  go_enter Try.func147, Try.ntmps147
  go_wp2_with (first | (go_at_call 102; first | ((with_reducible refine (HF1.out _).mono ?_); rintro e w' ⟨rfl, rfl⟩) | ((with_reducible refine (HT1.out _).mono ?_); rintro e w' ⟨rfl, rfl⟩)) | (go_at_call 104; first | ((with_reducible refine (HC1.out _).mono ?_); rintro e w' ⟨rfl, rfl⟩) | ((with_reducible refine (HS1.out _).mono ?_); rintro e w' ⟨rfl, rfl⟩)))
  (try clear z1 z2)
  clear e1 HF1 HT1 HC1 HS1
  go_loopw [3] (fun i wr => ∃ k : Nat, k ≤ ds.length ∧ i = .int .i64 k ∧ GoodDs ds k ∧ wr.heap[w.heap.size]? = some (.cells #[.string f, .string t, .int .i64 ch, .slice D ds.length dc, .int .i64 sm] 86 (0, 0)) ∧ Below w.heap.size w wr) (fun i _ => ds.length - (intOf i).toNat)
  case atStart => exact ⟨0, Nat.zero_le _, rfl, fun i h hi => by omega, HB0.out.2, HB0.out.1⟩
  case round =>
    obtain ⟨k, hk, rfl, hg, he, hb⟩ := hrel
    have hez : w.heap.size < wr.heap.size := (Array.getElem?_eq_some_iff.1 he).1
    have hc3 : wr.cell? ⟨w.heap.size, 3, none⟩ = some (.slice D ds.length dc) := by rw [cell_of_row wr _ 3 _ _ _ he]; rfl
    have HG := Lib.hid hg
    have HE := Lib.hid he
    clear hg he
    by_cases hlt : k < ds.length
    · obtain ⟨ad, rfl, hbl, h1, h2, h3, h4, h5⟩ := (HX.out.below hb).df hlt
      have hcl := hb.size
      have HSX : Hid (DSz ds[k]) := HS.out _ (List.getElem_mem _)
      have HN1 := Lib.hid (fun h => okDs_false1 hlt h)
      have HST := Lib.hid (fun h1 h2 => HG.out.step hlt h1 h2)
      by_cases h0 : 0 < k
      · have hlp : k - 1 < ds.length := by omega
        obtain ⟨ad', e1, _, hp, _⟩ := (HX.out.below hb).df hlp
        injection e1 with e1
        subst e1
        have k2 : (wr.alloc (.cells #[.string ds[k].key, .string ds[k].old, .string ds[k].new, .bool ds[k].had, .bool ds[k].has] 145)).cell? (ad.add ((k - 1) * 5)) = some (.string ds[k - 1].key) := oldA hp (by simp only [add_block]; omega)
        have k3 : (wr.alloc (.cells #[.string ds[k].key, .string ds[k].old, .string ds[k].new, .bool ds[k].had, .bool ds[k].has] 145)).cell? ⟨w.heap.size, 3, none⟩ = some (.slice (some ad) ds.length dc) := oldA hc3 hez
        have HN2 := Lib.hid (fun h => okDs_false2 hlt h0 h)
        have q0 : IntKind.i64.wrap ((k : Int) - 1) = (k : Int) - 1 := IntWalk.i64_in _ (by omega)
        have q1 : (0 : Int) ≤ (k : Int) - 1 := by omega
        have q2 : ((k : Int) - 1).toNat = k - 1 := by omega
        have q3 : decide ((0 : Int) < (k : Int)) = true := by simp; omega
        have q5 : (k : Int) - 1 < (ds.length : Int) := by omega
        have q6 : (1 : Int) ≤ (k : Int) := by omega
        generalize hgx : ds[k] = x at *
        generalize hgp : ds[k - 1] = p at *
        clear hgx hgp
        have g1 := h1
        have g2' := h2
        have g3' := h3
        have g4 := h4
        have g5 := h5
        clear h1 h2 h3 h4 h5
        obtain ⟨key, old, new, had, has⟩ := x
        have HIN := Lib.hid (fun W => in_any key.size 1 30 W)
        have m0 : (wr.alloc (.cells #[.string key, .string old, .string new, .bool had, .bool has] 145)).cell? ⟨wr.heap.size, 0, none⟩ = some (.string key) := by simp [go_sem]
        have m1 : (wr.alloc (.cells #[.string key, .string old, .string new, .bool had, .bool has] 145)).cell? ⟨wr.heap.size, 1, none⟩ = some (.string old) := by simp [go_sem]
        have m2 : (wr.alloc (.cells #[.string key, .string old, .string new, .bool had, .bool has] 145)).cell? ⟨wr.heap.size, 2, none⟩ = some (.string new) := by simp [go_sem]
        have m3 : (wr.alloc (.cells #[.string key, .string old, .string new, .bool had, .bool has] 145)).cell? ⟨wr.heap.size, 3, none⟩ = some (.bool had) := by simp [go_sem]
        have m4 : (wr.alloc (.cells #[.string key, .string old, .string new, .bool had, .bool has] 145)).cell? ⟨wr.heap.size, 4, none⟩ = some (.bool has) := by simp [go_sem]
        have HW : Hid (Below w.heap.size w (wr.alloc (.cells #[.string key, .string old, .string new, .bool had, .bool has] 145))) := (show Below _ _ _ by repeat (first | exact Below.refl _ _ | assumption | refine Below.drew ?_ | refine below_drewN ?_ _ | refine Below.setCell ?_ (by first | exact Nat.le_refl _ | exact Below.size (by assumption) | (simp; done) | (simp; omega) | omega) _ | refine Below.alloc ?_ (by first | exact Nat.le_refl _ | exact Below.size (by assumption) | (simp; done) | (simp; omega) | omega) _))
        have hs1 : key.size ≤ 4611686018427387904 := HSX.out.1
        have hs2 : old.size ≤ 4611686018427387904 := HSX.out.2.1
        have hs3 : new.size ≤ 4611686018427387904 := HSX.out.2.2
        cases h1 : withinB key.size 1 30
        case false =>
          rw [h1] at HIN
          have HPB : Hid (dOk ⟨key, old, new, had, has⟩ = false) := by show _ = _; simp [dOk, h1]
          clear h1
          go_wp2_with fail
          go_quiet ((go_at_call 104; exact callsQuiet (HIN.out _)))
          go_wp2_with fail
          go_ret
          exact ⟨by rw [show r = false from HR.out.symm.trans (HN1.out HPB.out)]; rfl, below_drewN HW.out _⟩
        rw [h1] at HIN
        by_cases h2 : old.size ≤ 90
        case neg =>
          have HPB : Hid (dOk ⟨key, old, new, had, has⟩ = false) := by show _ = _; simp [dOk, h2]
          have g2 : decide ((90 : Int) < (old.size : Int)) = true := decide_eq_true (by omega)
          clear h1
          go_wp2_with fail
          go_quiet ((go_at_call 104; exact callsQuiet (HIN.out _)))
          go_wp2_with fail
          go_ret
          exact ⟨by rw [show r = false from HR.out.symm.trans (HN1.out HPB.out)]; rfl, below_drewN HW.out _⟩
        have g2 : decide ((90 : Int) < (old.size : Int)) = false := decide_eq_false (by omega)
        by_cases h3 : new.size ≤ 90
        case neg =>
          have HPB : Hid (dOk ⟨key, old, new, had, has⟩ = false) := by show _ = _; simp [dOk, h3]
          have g3 : decide ((90 : Int) < (new.size : Int)) = true := decide_eq_true (by omega)
          clear h1
          go_wp2_with fail
          go_quiet ((go_at_call 104; exact callsQuiet (HIN.out _)))
          go_wp2_with fail
          go_ret
          exact ⟨by rw [show r = false from HR.out.symm.trans (HN1.out HPB.out)]; rfl, below_drewN HW.out _⟩
        have g3 : decide ((90 : Int) < (new.size : Int)) = false := decide_eq_false (by omega)
        have e0 : (⟨#[]⟩ : ByteArray).toList.isEmpty = true := by rw [ByteArray.toList_eq]; rfl
        cases had <;> cases has
        · have HPB : Hid (dOk ⟨key, old, new, false, false⟩ = false) := by show _ = _; simp [dOk]
          clear h1
          go_wp2_with fail
          go_quiet ((go_at_call 104; exact callsQuiet (HIN.out _)))
          go_wp2_with fail
          go_ret
          exact ⟨by rw [show r = false from HR.out.symm.trans (HN1.out HPB.out)]; rfl, below_drewN HW.out _⟩
        · by_cases h4 : old = ⟨#[]⟩
          case neg =>
            have f4 := notEmpty h4
            have HPB : Hid (dOk ⟨key, old, new, false, true⟩ = false) := by show _ = _; simp [dOk, h4]
            clear h1
            go_wp2_with fail
            go_quiet ((go_at_call 104; exact callsQuiet (HIN.out _)))
            go_wp2_with fail
            go_ret
            exact ⟨by rw [show r = false from HR.out.symm.trans (HN1.out HPB.out)]; rfl, below_drewN HW.out _⟩
          subst h4
          have HPB : Hid (dOk ⟨key, ⟨#[]⟩, new, false, true⟩ = true) := by show _ = _; simp [dOk, h1, h2, h3]
          clear h1
          cases hlt2 : lt p.key key
          all_goals
            have q4 : Op.bytesLess p.key.toList key.toList = _ := hlt2
            have HLT := Lib.hid hlt2
            clear hlt2
            first
              | (go_wp2_with fail
                 go_quiet ((go_at_call 104; exact callsQuiet (HIN.out _)))
                 go_wp2_with fail
                 go_ret
                 exact ⟨by rw [show r = false from HR.out.symm.trans (HN2.out HLT.out)]; rfl, below_drewN HW.out _⟩)
              | (go_wp2_with fail
                 go_quiet ((go_at_call 104; exact callsQuiet (HIN.out _)))
                 go_wp2_with fail
                 go_roundw
                 case rel => exact ⟨k + 1, by omega, by go_num, HST.out HPB.out (fun _ => HLT.out), (Below.block (B := wr.heap.size) (by repeat (first | exact Below.refl _ _ | assumption | refine Below.drew ?_ | refine below_drewN ?_ _ | refine Below.setCell ?_ (by first | exact Nat.le_refl _ | exact Below.size (by assumption) | (simp; done) | (simp; omega) | omega) _ | refine Below.alloc ?_ (by first | exact Nat.le_refl _ | exact Below.size (by assumption) | (simp; done) | (simp; omega) | omega) _)) _ (by omega)).trans HE.out, below_drewN HW.out _⟩
                 case measure => simp [intOf]; omega)
        · by_cases h4 : new = ⟨#[]⟩
          case neg =>
            have f4 := notEmpty h4
            have HPB : Hid (dOk ⟨key, old, new, true, false⟩ = false) := by show _ = _; simp [dOk, h4]
            clear h1
            go_wp2_with fail
            go_quiet ((go_at_call 104; exact callsQuiet (HIN.out _)))
            go_wp2_with fail
            go_ret
            exact ⟨by rw [show r = false from HR.out.symm.trans (HN1.out HPB.out)]; rfl, below_drewN HW.out _⟩
          subst h4
          have HPB : Hid (dOk ⟨key, old, ⟨#[]⟩, true, false⟩ = true) := by show _ = _; simp [dOk, h1, h2, h3]
          clear h1
          cases hlt2 : lt p.key key
          all_goals
            have q4 : Op.bytesLess p.key.toList key.toList = _ := hlt2
            have HLT := Lib.hid hlt2
            clear hlt2
            first
              | (go_wp2_with fail
                 go_quiet ((go_at_call 104; exact callsQuiet (HIN.out _)))
                 go_wp2_with fail
                 go_ret
                 exact ⟨by rw [show r = false from HR.out.symm.trans (HN2.out HLT.out)]; rfl, below_drewN HW.out _⟩)
              | (go_wp2_with fail
                 go_quiet ((go_at_call 104; exact callsQuiet (HIN.out _)))
                 go_wp2_with fail
                 go_roundw
                 case rel => exact ⟨k + 1, by omega, by go_num, HST.out HPB.out (fun _ => HLT.out), (Below.block (B := wr.heap.size) (by repeat (first | exact Below.refl _ _ | assumption | refine Below.drew ?_ | refine below_drewN ?_ _ | refine Below.setCell ?_ (by first | exact Nat.le_refl _ | exact Below.size (by assumption) | (simp; done) | (simp; omega) | omega) _ | refine Below.alloc ?_ (by first | exact Nat.le_refl _ | exact Below.size (by assumption) | (simp; done) | (simp; omega) | omega) _)) _ (by omega)).trans HE.out, below_drewN HW.out _⟩
                 case measure => simp [intOf]; omega)
        · have HPB : Hid (dOk ⟨key, old, new, true, true⟩ = true) := by show _ = _; simp [dOk, h1, h2, h3]
          clear h1
          cases hlt2 : lt p.key key
          all_goals
            have q4 : Op.bytesLess p.key.toList key.toList = _ := hlt2
            have HLT := Lib.hid hlt2
            clear hlt2
            first
              | (go_wp2_with fail
                 go_quiet ((go_at_call 104; exact callsQuiet (HIN.out _)))
                 go_wp2_with fail
                 go_ret
                 exact ⟨by rw [show r = false from HR.out.symm.trans (HN2.out HLT.out)]; rfl, below_drewN HW.out _⟩)
              | (go_wp2_with fail
                 go_quiet ((go_at_call 104; exact callsQuiet (HIN.out _)))
                 go_wp2_with fail
                 go_roundw
                 case rel => exact ⟨k + 1, by omega, by go_num, HST.out HPB.out (fun _ => HLT.out), (Below.block (B := wr.heap.size) (by repeat (first | exact Below.refl _ _ | assumption | refine Below.drew ?_ | refine below_drewN ?_ _ | refine Below.setCell ?_ (by first | exact Nat.le_refl _ | exact Below.size (by assumption) | (simp; done) | (simp; omega) | omega) _ | refine Below.alloc ?_ (by first | exact Nat.le_refl _ | exact Below.size (by assumption) | (simp; done) | (simp; omega) | omega) _)) _ (by omega)).trans HE.out, below_drewN HW.out _⟩
                 case measure => simp [intOf]; omega)
      · obtain rfl : k = 0 := by omega
        generalize hgx : ds[0] = x at *
        clear hgx
        have hd0 : wr.cell? ad = some (.string x.key) := by simpa [Addr.add] using h1
        have hd1 : wr.cell? ⟨ad.block, ad.off + 1, none⟩ = some (.string x.old) := by simpa [Addr.add] using h2
        have hd2 : wr.cell? ⟨ad.block, ad.off + 1 + 1, none⟩ = some (.string x.new) := by simpa [Addr.add] using h3
        have hd3 : wr.cell? ⟨ad.block, ad.off + 1 + 1 + 1, none⟩ = some (.bool x.had) := by simpa [Addr.add] using h4
        have hd4 : wr.cell? ⟨ad.block, ad.off + 1 + 1 + 1 + 1, none⟩ = some (.bool x.has) := by simpa [Addr.add] using h5
        clear h1 h2 h3 h4 h5
        obtain ⟨key, old, new, had, has⟩ := x
        have HIN := Lib.hid (fun W => in_any key.size 1 30 W)
        have m0 : (wr.alloc (.cells #[.string key, .string old, .string new, .bool had, .bool has] 145)).cell? ⟨wr.heap.size, 0, none⟩ = some (.string key) := by simp [go_sem]
        have m1 : (wr.alloc (.cells #[.string key, .string old, .string new, .bool had, .bool has] 145)).cell? ⟨wr.heap.size, 1, none⟩ = some (.string old) := by simp [go_sem]
        have m2 : (wr.alloc (.cells #[.string key, .string old, .string new, .bool had, .bool has] 145)).cell? ⟨wr.heap.size, 2, none⟩ = some (.string new) := by simp [go_sem]
        have m3 : (wr.alloc (.cells #[.string key, .string old, .string new, .bool had, .bool has] 145)).cell? ⟨wr.heap.size, 3, none⟩ = some (.bool had) := by simp [go_sem]
        have m4 : (wr.alloc (.cells #[.string key, .string old, .string new, .bool had, .bool has] 145)).cell? ⟨wr.heap.size, 4, none⟩ = some (.bool has) := by simp [go_sem]
        have HW : Hid (Below w.heap.size w (wr.alloc (.cells #[.string key, .string old, .string new, .bool had, .bool has] 145))) := (show Below _ _ _ by repeat (first | exact Below.refl _ _ | assumption | refine Below.drew ?_ | refine below_drewN ?_ _ | refine Below.setCell ?_ (by first | exact Nat.le_refl _ | exact Below.size (by assumption) | (simp; done) | (simp; omega) | omega) _ | refine Below.alloc ?_ (by first | exact Nat.le_refl _ | exact Below.size (by assumption) | (simp; done) | (simp; omega) | omega) _))
        have hs1 : key.size ≤ 4611686018427387904 := HSX.out.1
        have hs2 : old.size ≤ 4611686018427387904 := HSX.out.2.1
        have hs3 : new.size ≤ 4611686018427387904 := HSX.out.2.2
        cases h1 : withinB key.size 1 30
        case false =>
          rw [h1] at HIN
          have HPB : Hid (dOk ⟨key, old, new, had, has⟩ = false) := by show _ = _; simp [dOk, h1]
          clear h1
          go_wp2_with fail
          go_quiet ((go_at_call 104; exact callsQuiet (HIN.out _)))
          go_wp2_with fail
          go_ret
          exact ⟨by rw [show r = false from HR.out.symm.trans (HN1.out HPB.out)]; rfl, below_drewN HW.out _⟩
        rw [h1] at HIN
        by_cases h2 : old.size ≤ 90
        case neg =>
          have HPB : Hid (dOk ⟨key, old, new, had, has⟩ = false) := by show _ = _; simp [dOk, h2]
          have g2 : decide ((90 : Int) < (old.size : Int)) = true := decide_eq_true (by omega)
          clear h1
          go_wp2_with fail
          go_quiet ((go_at_call 104; exact callsQuiet (HIN.out _)))
          go_wp2_with fail
          go_ret
          exact ⟨by rw [show r = false from HR.out.symm.trans (HN1.out HPB.out)]; rfl, below_drewN HW.out _⟩
        have g2 : decide ((90 : Int) < (old.size : Int)) = false := decide_eq_false (by omega)
        by_cases h3 : new.size ≤ 90
        case neg =>
          have HPB : Hid (dOk ⟨key, old, new, had, has⟩ = false) := by show _ = _; simp [dOk, h3]
          have g3 : decide ((90 : Int) < (new.size : Int)) = true := decide_eq_true (by omega)
          clear h1
          go_wp2_with fail
          go_quiet ((go_at_call 104; exact callsQuiet (HIN.out _)))
          go_wp2_with fail
          go_ret
          exact ⟨by rw [show r = false from HR.out.symm.trans (HN1.out HPB.out)]; rfl, below_drewN HW.out _⟩
        have g3 : decide ((90 : Int) < (new.size : Int)) = false := decide_eq_false (by omega)
        have e0 : (⟨#[]⟩ : ByteArray).toList.isEmpty = true := by rw [ByteArray.toList_eq]; rfl
        cases had <;> cases has
        · have HPB : Hid (dOk ⟨key, old, new, false, false⟩ = false) := by show _ = _; simp [dOk]
          clear h1
          go_wp2_with fail
          go_quiet ((go_at_call 104; exact callsQuiet (HIN.out _)))
          go_wp2_with fail
          go_ret
          exact ⟨by rw [show r = false from HR.out.symm.trans (HN1.out HPB.out)]; rfl, below_drewN HW.out _⟩
        · by_cases h4 : old = ⟨#[]⟩
          case neg =>
            have f4 := notEmpty h4
            have HPB : Hid (dOk ⟨key, old, new, false, true⟩ = false) := by show _ = _; simp [dOk, h4]
            clear h1
            go_wp2_with fail
            go_quiet ((go_at_call 104; exact callsQuiet (HIN.out _)))
            go_wp2_with fail
            go_ret
            exact ⟨by rw [show r = false from HR.out.symm.trans (HN1.out HPB.out)]; rfl, below_drewN HW.out _⟩
          subst h4
          have HPB : Hid (dOk ⟨key, ⟨#[]⟩, new, false, true⟩ = true) := by show _ = _; simp [dOk, h1, h2, h3]
          clear h1
          go_wp2_with fail
          go_quiet ((go_at_call 104; exact callsQuiet (HIN.out _)))
          go_wp2_with fail
          go_roundw
          case rel => exact ⟨1, by omega, by go_num, HST.out HPB.out (fun h => by omega), (Below.block (B := wr.heap.size) (by repeat (first | exact Below.refl _ _ | assumption | refine Below.drew ?_ | refine below_drewN ?_ _ | refine Below.setCell ?_ (by first | exact Nat.le_refl _ | exact Below.size (by assumption) | (simp; done) | (simp; omega) | omega) _ | refine Below.alloc ?_ (by first | exact Nat.le_refl _ | exact Below.size (by assumption) | (simp; done) | (simp; omega) | omega) _)) _ (by omega)).trans HE.out, below_drewN HW.out _⟩
          case measure => simp [intOf]; omega
        · by_cases h4 : new = ⟨#[]⟩
          case neg =>
            have f4 := notEmpty h4
            have HPB : Hid (dOk ⟨key, old, new, true, false⟩ = false) := by show _ = _; simp [dOk, h4]
            clear h1
            go_wp2_with fail
            go_quiet ((go_at_call 104; exact callsQuiet (HIN.out _)))
            go_wp2_with fail
            go_ret
            exact ⟨by rw [show r = false from HR.out.symm.trans (HN1.out HPB.out)]; rfl, below_drewN HW.out _⟩
          subst h4
          have HPB : Hid (dOk ⟨key, old, ⟨#[]⟩, true, false⟩ = true) := by show _ = _; simp [dOk, h1, h2, h3]
          clear h1
          go_wp2_with fail
          go_quiet ((go_at_call 104; exact callsQuiet (HIN.out _)))
          go_wp2_with fail
          go_roundw
          case rel => exact ⟨1, by omega, by go_num, HST.out HPB.out (fun h => by omega), (Below.block (B := wr.heap.size) (by repeat (first | exact Below.refl _ _ | assumption | refine Below.drew ?_ | refine below_drewN ?_ _ | refine Below.setCell ?_ (by first | exact Nat.le_refl _ | exact Below.size (by assumption) | (simp; done) | (simp; omega) | omega) _ | refine Below.alloc ?_ (by first | exact Nat.le_refl _ | exact Below.size (by assumption) | (simp; done) | (simp; omega) | omega) _)) _ (by omega)).trans HE.out, below_drewN HW.out _⟩
          case measure => simp [intOf]; omega
        · have HPB : Hid (dOk ⟨key, old, new, true, true⟩ = true) := by show _ = _; simp [dOk, h1, h2, h3]
          clear h1
          go_wp2_with fail
          go_quiet ((go_at_call 104; exact callsQuiet (HIN.out _)))
          go_wp2_with fail
          go_roundw
          case rel => exact ⟨1, by omega, by go_num, HST.out HPB.out (fun h => by omega), (Below.block (B := wr.heap.size) (by repeat (first | exact Below.refl _ _ | assumption | refine Below.drew ?_ | refine below_drewN ?_ _ | refine Below.setCell ?_ (by first | exact Nat.le_refl _ | exact Below.size (by assumption) | (simp; done) | (simp; omega) | omega) _ | refine Below.alloc ?_ (by first | exact Nat.le_refl _ | exact Below.size (by assumption) | (simp; done) | (simp; omega) | omega) _)) _ (by omega)).trans HE.out, below_drewN HW.out _⟩
          case measure => simp [intOf]; omega
    · go_wp2
      go_ret
      exact ⟨by rw [show r = true from HR.out.symm.trans (okDs_true HG.out (by omega))]; rfl, hb⟩
set_option maxRecDepth 100000 in
set_option maxHeartbeats 8000000 in
theorem specBackupOK_n (f t : ByteArray) (ch : Int) (D : Option Addr) (ds : List Df) (dc : Nat) (sm : Int) (w : World) (hx : Rd w w.heap.size D (flat encD ds)) (hf : f.size ≤ maxLen) (ht : t.size ≤ maxLen) (hs : ∀ d ∈ ds, DSz d) (hh : headB f t ch = true) (hsm : withinB sm 0 4294967295 = true) (hl : ds.length ≤ 120) (hf0 : f ≠ ⟨#[]⟩) (hsf : shortA f = true) :
    Calls Try.prog 147 #[bkV f t ch D ds.length dc sm] w fun e w' => e = .returned (.bool (okDs ds)) ∧ Below w.heap.size w w' := by
  generalize hr : okDs ds = r
  have HR := Lib.hid hr
  have HX := Lib.hid hx
  have HS := Lib.hid hs
  have hb0 : Below w.heap.size w (w.alloc (.cells #[.string f, .string t, .int .i64 ch, .slice D ds.length dc, .int .i64 sm] 86)) := by repeat (first | exact Below.refl _ _ | assumption | refine Below.drew ?_ | refine below_drewN ?_ _ | refine Below.setCell ?_ (by first | exact Nat.le_refl _ | exact Below.size (by assumption) | (simp; done) | (simp; omega) | omega) _ | refine Below.alloc ?_ (by first | exact Nat.le_refl _ | exact Below.size (by assumption) | (simp; done) | (simp; omega) | omega) _)
  have e0 : (w.alloc (.cells #[.string f, .string t, .int .i64 ch, .slice D ds.length dc, .int .i64 sm] 86)).heap[w.heap.size]? = some (.cells #[.string f, .string t, .int .i64 ch, .slice D ds.length dc, .int .i64 sm] 86 (0, 0)) := heap_alloc_new _ _
  have HB0 := Lib.hid (And.intro hb0 e0)
  have HT1 := Lib.hid (fun W => l04Name_any t W ht)
  have HF1 := Lib.hid (fun W => l04Name_any f W hf)
  have HC1 := Lib.hid (fun W => in_any ch 0 4294967295 W)
  have HS1 := Lib.hid (fun W => in_any sm 0 4294967295 W)
  rw [show shortB t.data.toList = shortA t from rfl] at HT1
  rw [show shortB f.data.toList = shortA f from rfl] at HF1
  simp only [headB, Bool.and_eq_true, Bool.or_eq_true, decide_eq_true_eq] at hh
  obtain ⟨⟨hh1, hh2⟩, hh3⟩ := hh
  rw [hh2] at HT1
  rw [hh3] at HC1
  rw [hsm] at HS1
  clear hr hx hs hb0 e0 hf ht hh1 hh2 hh3 hsm
  have HEAD : Hid (∀ K : Prop, True) := fun _ => trivial
  clear HEAD
  have e1 : f.toList.isEmpty = false := notEmpty hf0
  rw [hsf] at HF1
  clear hf0 hsf
  go_enter Try.func147, Try.ntmps147
  go_wp2_with (first | (go_at_call 102; first | ((with_reducible refine (HF1.out _).mono ?_); rintro e w' ⟨rfl, rfl⟩) | ((with_reducible refine (HT1.out _).mono ?_); rintro e w' ⟨rfl, rfl⟩)) | (go_at_call 104; first | ((with_reducible refine (HC1.out _).mono ?_); rintro e w' ⟨rfl, rfl⟩) | ((with_reducible refine (HS1.out _).mono ?_); rintro e w' ⟨rfl, rfl⟩)))
  (try clear z1 z2)
  clear e1 HF1 HT1 HC1 HS1
  go_loopw [3] (fun i wr => ∃ k : Nat, k ≤ ds.length ∧ i = .int .i64 k ∧ GoodDs ds k ∧ wr.heap[w.heap.size]? = some (.cells #[.string f, .string t, .int .i64 ch, .slice D ds.length dc, .int .i64 sm] 86 (0, 0)) ∧ Below w.heap.size w wr) (fun i _ => ds.length - (intOf i).toNat)
  case atStart => exact ⟨0, Nat.zero_le _, rfl, fun i h hi => by omega, HB0.out.2, HB0.out.1⟩
  case round =>
    obtain ⟨k, hk, rfl, hg, he, hb⟩ := hrel
    have hez : w.heap.size < wr.heap.size := (Array.getElem?_eq_some_iff.1 he).1
    have hc3 : wr.cell? ⟨w.heap.size, 3, none⟩ = some (.slice D ds.length dc) := by rw [cell_of_row wr _ 3 _ _ _ he]; rfl
    have HG := Lib.hid hg
    have HE := Lib.hid he
    clear hg he
    by_cases hlt : k < ds.length
    · obtain ⟨ad, rfl, hbl, h1, h2, h3, h4, h5⟩ := (HX.out.below hb).df hlt
      have hcl := hb.size
      have HSX : Hid (DSz ds[k]) := HS.out _ (List.getElem_mem _)
      have HN1 := Lib.hid (fun h => okDs_false1 hlt h)
      have HST := Lib.hid (fun h1 h2 => HG.out.step hlt h1 h2)
      by_cases h0 : 0 < k
      · have hlp : k - 1 < ds.length := by omega
        obtain ⟨ad', e1, _, hp, _⟩ := (HX.out.below hb).df hlp
        injection e1 with e1
        subst e1
        have k2 : (wr.alloc (.cells #[.string ds[k].key, .string ds[k].old, .string ds[k].new, .bool ds[k].had, .bool ds[k].has] 145)).cell? (ad.add ((k - 1) * 5)) = some (.string ds[k - 1].key) := oldA hp (by simp only [add_block]; omega)
        have k3 : (wr.alloc (.cells #[.string ds[k].key, .string ds[k].old, .string ds[k].new, .bool ds[k].had, .bool ds[k].has] 145)).cell? ⟨w.heap.size, 3, none⟩ = some (.slice (some ad) ds.length dc) := oldA hc3 hez
        have HN2 := Lib.hid (fun h => okDs_false2 hlt h0 h)
        have q0 : IntKind.i64.wrap ((k : Int) - 1) = (k : Int) - 1 := IntWalk.i64_in _ (by omega)
        have q1 : (0 : Int) ≤ (k : Int) - 1 := by omega
        have q2 : ((k : Int) - 1).toNat = k - 1 := by omega
        have q3 : decide ((0 : Int) < (k : Int)) = true := by simp; omega
        have q5 : (k : Int) - 1 < (ds.length : Int) := by omega
        have q6 : (1 : Int) ≤ (k : Int) := by omega
        generalize hgx : ds[k] = x at *
        generalize hgp : ds[k - 1] = p at *
        clear hgx hgp
        have g1 := h1
        have g2' := h2
        have g3' := h3
        have g4 := h4
        have g5 := h5
        clear h1 h2 h3 h4 h5
        obtain ⟨key, old, new, had, has⟩ := x
        have HIN := Lib.hid (fun W => in_any key.size 1 30 W)
        have m0 : (wr.alloc (.cells #[.string key, .string old, .string new, .bool had, .bool has] 145)).cell? ⟨wr.heap.size, 0, none⟩ = some (.string key) := by simp [go_sem]
        have m1 : (wr.alloc (.cells #[.string key, .string old, .string new, .bool had, .bool has] 145)).cell? ⟨wr.heap.size, 1, none⟩ = some (.string old) := by simp [go_sem]
        have m2 : (wr.alloc (.cells #[.string key, .string old, .string new, .bool had, .bool has] 145)).cell? ⟨wr.heap.size, 2, none⟩ = some (.string new) := by simp [go_sem]
        have m3 : (wr.alloc (.cells #[.string key, .string old, .string new, .bool had, .bool has] 145)).cell? ⟨wr.heap.size, 3, none⟩ = some (.bool had) := by simp [go_sem]
        have m4 : (wr.alloc (.cells #[.string key, .string old, .string new, .bool had, .bool has] 145)).cell? ⟨wr.heap.size, 4, none⟩ = some (.bool has) := by simp [go_sem]
        have HW : Hid (Below w.heap.size w (wr.alloc (.cells #[.string key, .string old, .string new, .bool had, .bool has] 145))) := (show Below _ _ _ by repeat (first | exact Below.refl _ _ | assumption | refine Below.drew ?_ | refine below_drewN ?_ _ | refine Below.setCell ?_ (by first | exact Nat.le_refl _ | exact Below.size (by assumption) | (simp; done) | (simp; omega) | omega) _ | refine Below.alloc ?_ (by first | exact Nat.le_refl _ | exact Below.size (by assumption) | (simp; done) | (simp; omega) | omega) _))
        have hs1 : key.size ≤ 4611686018427387904 := HSX.out.1
        have hs2 : old.size ≤ 4611686018427387904 := HSX.out.2.1
        have hs3 : new.size ≤ 4611686018427387904 := HSX.out.2.2
        cases h1 : withinB key.size 1 30
        case false =>
          rw [h1] at HIN
          have HPB : Hid (dOk ⟨key, old, new, had, has⟩ = false) := by show _ = _; simp [dOk, h1]
          clear h1
          go_wp2_with fail
          go_quiet ((go_at_call 104; exact callsQuiet (HIN.out _)))
          go_wp2_with fail
          go_ret
          exact ⟨by rw [show r = false from HR.out.symm.trans (HN1.out HPB.out)]; rfl, below_drewN HW.out _⟩
        rw [h1] at HIN
        by_cases h2 : old.size ≤ 90
        case neg =>
          have HPB : Hid (dOk ⟨key, old, new, had, has⟩ = false) := by show _ = _; simp [dOk, h2]
          have g2 : decide ((90 : Int) < (old.size : Int)) = true := decide_eq_true (by omega)
          clear h1
          go_wp2_with fail
          go_quiet ((go_at_call 104; exact callsQuiet (HIN.out _)))
          go_wp2_with fail
          go_ret
          exact ⟨by rw [show r = false from HR.out.symm.trans (HN1.out HPB.out)]; rfl, below_drewN HW.out _⟩
        have g2 : decide ((90 : Int) < (old.size : Int)) = false := decide_eq_false (by omega)
        by_cases h3 : new.size ≤ 90
        case neg =>
          have HPB : Hid (dOk ⟨key, old, new, had, has⟩ = false) := by show _ = _; simp [dOk, h3]
          have g3 : decide ((90 : Int) < (new.size : Int)) = true := decide_eq_true (by omega)
          clear h1
          go_wp2_with fail
          go_quiet ((go_at_call 104; exact callsQuiet (HIN.out _)))
          go_wp2_with fail
          go_ret
          exact ⟨by rw [show r = false from HR.out.symm.trans (HN1.out HPB.out)]; rfl, below_drewN HW.out _⟩
        have g3 : decide ((90 : Int) < (new.size : Int)) = false := decide_eq_false (by omega)
        have e0 : (⟨#[]⟩ : ByteArray).toList.isEmpty = true := by rw [ByteArray.toList_eq]; rfl
        cases had <;> cases has
        · have HPB : Hid (dOk ⟨key, old, new, false, false⟩ = false) := by show _ = _; simp [dOk]
          clear h1
          go_wp2_with fail
          go_quiet ((go_at_call 104; exact callsQuiet (HIN.out _)))
          go_wp2_with fail
          go_ret
          exact ⟨by rw [show r = false from HR.out.symm.trans (HN1.out HPB.out)]; rfl, below_drewN HW.out _⟩
        · by_cases h4 : old = ⟨#[]⟩
          case neg =>
            have f4 := notEmpty h4
            have HPB : Hid (dOk ⟨key, old, new, false, true⟩ = false) := by show _ = _; simp [dOk, h4]
            clear h1
            go_wp2_with fail
            go_quiet ((go_at_call 104; exact callsQuiet (HIN.out _)))
            go_wp2_with fail
            go_ret
            exact ⟨by rw [show r = false from HR.out.symm.trans (HN1.out HPB.out)]; rfl, below_drewN HW.out _⟩
          subst h4
          have HPB : Hid (dOk ⟨key, ⟨#[]⟩, new, false, true⟩ = true) := by show _ = _; simp [dOk, h1, h2, h3]
          clear h1
          cases hlt2 : lt p.key key
          all_goals
            have q4 : Op.bytesLess p.key.toList key.toList = _ := hlt2
            have HLT := Lib.hid hlt2
            clear hlt2
            first
              | (go_wp2_with fail
                 go_quiet ((go_at_call 104; exact callsQuiet (HIN.out _)))
                 go_wp2_with fail
                 go_ret
                 exact ⟨by rw [show r = false from HR.out.symm.trans (HN2.out HLT.out)]; rfl, below_drewN HW.out _⟩)
              | (go_wp2_with fail
                 go_quiet ((go_at_call 104; exact callsQuiet (HIN.out _)))
                 go_wp2_with fail
                 go_roundw
                 case rel => exact ⟨k + 1, by omega, by go_num, HST.out HPB.out (fun _ => HLT.out), (Below.block (B := wr.heap.size) (by repeat (first | exact Below.refl _ _ | assumption | refine Below.drew ?_ | refine below_drewN ?_ _ | refine Below.setCell ?_ (by first | exact Nat.le_refl _ | exact Below.size (by assumption) | (simp; done) | (simp; omega) | omega) _ | refine Below.alloc ?_ (by first | exact Nat.le_refl _ | exact Below.size (by assumption) | (simp; done) | (simp; omega) | omega) _)) _ (by omega)).trans HE.out, below_drewN HW.out _⟩
                 case measure => simp [intOf]; omega)
        · by_cases h4 : new = ⟨#[]⟩
          case neg =>
            have f4 := notEmpty h4
            have HPB : Hid (dOk ⟨key, old, new, true, false⟩ = false) := by show _ = _; simp [dOk, h4]
            clear h1
            go_wp2_with fail
            go_quiet ((go_at_call 104; exact callsQuiet (HIN.out _)))
            go_wp2_with fail
            go_ret
            exact ⟨by rw [show r = false from HR.out.symm.trans (HN1.out HPB.out)]; rfl, below_drewN HW.out _⟩
          subst h4
          have HPB : Hid (dOk ⟨key, old, ⟨#[]⟩, true, false⟩ = true) := by show _ = _; simp [dOk, h1, h2, h3]
          clear h1
          cases hlt2 : lt p.key key
          all_goals
            have q4 : Op.bytesLess p.key.toList key.toList = _ := hlt2
            have HLT := Lib.hid hlt2
            clear hlt2
            first
              | (go_wp2_with fail
                 go_quiet ((go_at_call 104; exact callsQuiet (HIN.out _)))
                 go_wp2_with fail
                 go_ret
                 exact ⟨by rw [show r = false from HR.out.symm.trans (HN2.out HLT.out)]; rfl, below_drewN HW.out _⟩)
              | (go_wp2_with fail
                 go_quiet ((go_at_call 104; exact callsQuiet (HIN.out _)))
                 go_wp2_with fail
                 go_roundw
                 case rel => exact ⟨k + 1, by omega, by go_num, HST.out HPB.out (fun _ => HLT.out), (Below.block (B := wr.heap.size) (by repeat (first | exact Below.refl _ _ | assumption | refine Below.drew ?_ | refine below_drewN ?_ _ | refine Below.setCell ?_ (by first | exact Nat.le_refl _ | exact Below.size (by assumption) | (simp; done) | (simp; omega) | omega) _ | refine Below.alloc ?_ (by first | exact Nat.le_refl _ | exact Below.size (by assumption) | (simp; done) | (simp; omega) | omega) _)) _ (by omega)).trans HE.out, below_drewN HW.out _⟩
                 case measure => simp [intOf]; omega)
        · have HPB : Hid (dOk ⟨key, old, new, true, true⟩ = true) := by show _ = _; simp [dOk, h1, h2, h3]
          clear h1
          cases hlt2 : lt p.key key
          all_goals
            have q4 : Op.bytesLess p.key.toList key.toList = _ := hlt2
            have HLT := Lib.hid hlt2
            clear hlt2
            first
              | (go_wp2_with fail
                 go_quiet ((go_at_call 104; exact callsQuiet (HIN.out _)))
                 go_wp2_with fail
                 go_ret
                 exact ⟨by rw [show r = false from HR.out.symm.trans (HN2.out HLT.out)]; rfl, below_drewN HW.out _⟩)
              | (go_wp2_with fail
                 go_quiet ((go_at_call 104; exact callsQuiet (HIN.out _)))
                 go_wp2_with fail
                 go_roundw
                 case rel => exact ⟨k + 1, by omega, by go_num, HST.out HPB.out (fun _ => HLT.out), (Below.block (B := wr.heap.size) (by repeat (first | exact Below.refl _ _ | assumption | refine Below.drew ?_ | refine below_drewN ?_ _ | refine Below.setCell ?_ (by first | exact Nat.le_refl _ | exact Below.size (by assumption) | (simp; done) | (simp; omega) | omega) _ | refine Below.alloc ?_ (by first | exact Nat.le_refl _ | exact Below.size (by assumption) | (simp; done) | (simp; omega) | omega) _)) _ (by omega)).trans HE.out, below_drewN HW.out _⟩
                 case measure => simp [intOf]; omega)
      · obtain rfl : k = 0 := by omega
        generalize hgx : ds[0] = x at *
        clear hgx
        have hd0 : wr.cell? ad = some (.string x.key) := by simpa [Addr.add] using h1
        have hd1 : wr.cell? ⟨ad.block, ad.off + 1, none⟩ = some (.string x.old) := by simpa [Addr.add] using h2
        have hd2 : wr.cell? ⟨ad.block, ad.off + 1 + 1, none⟩ = some (.string x.new) := by simpa [Addr.add] using h3
        have hd3 : wr.cell? ⟨ad.block, ad.off + 1 + 1 + 1, none⟩ = some (.bool x.had) := by simpa [Addr.add] using h4
        have hd4 : wr.cell? ⟨ad.block, ad.off + 1 + 1 + 1 + 1, none⟩ = some (.bool x.has) := by simpa [Addr.add] using h5
        clear h1 h2 h3 h4 h5
        obtain ⟨key, old, new, had, has⟩ := x
        have HIN := Lib.hid (fun W => in_any key.size 1 30 W)
        have m0 : (wr.alloc (.cells #[.string key, .string old, .string new, .bool had, .bool has] 145)).cell? ⟨wr.heap.size, 0, none⟩ = some (.string key) := by simp [go_sem]
        have m1 : (wr.alloc (.cells #[.string key, .string old, .string new, .bool had, .bool has] 145)).cell? ⟨wr.heap.size, 1, none⟩ = some (.string old) := by simp [go_sem]
        have m2 : (wr.alloc (.cells #[.string key, .string old, .string new, .bool had, .bool has] 145)).cell? ⟨wr.heap.size, 2, none⟩ = some (.string new) := by simp [go_sem]
        have m3 : (wr.alloc (.cells #[.string key, .string old, .string new, .bool had, .bool has] 145)).cell? ⟨wr.heap.size, 3, none⟩ = some (.bool had) := by simp [go_sem]
        have m4 : (wr.alloc (.cells #[.string key, .string old, .string new, .bool had, .bool has] 145)).cell? ⟨wr.heap.size, 4, none⟩ = some (.bool has) := by simp [go_sem]
        have HW : Hid (Below w.heap.size w (wr.alloc (.cells #[.string key, .string old, .string new, .bool had, .bool has] 145))) := (show Below _ _ _ by repeat (first | exact Below.refl _ _ | assumption | refine Below.drew ?_ | refine below_drewN ?_ _ | refine Below.setCell ?_ (by first | exact Nat.le_refl _ | exact Below.size (by assumption) | (simp; done) | (simp; omega) | omega) _ | refine Below.alloc ?_ (by first | exact Nat.le_refl _ | exact Below.size (by assumption) | (simp; done) | (simp; omega) | omega) _))
        have hs1 : key.size ≤ 4611686018427387904 := HSX.out.1
        have hs2 : old.size ≤ 4611686018427387904 := HSX.out.2.1
        have hs3 : new.size ≤ 4611686018427387904 := HSX.out.2.2
        cases h1 : withinB key.size 1 30
        case false =>
          rw [h1] at HIN
          have HPB : Hid (dOk ⟨key, old, new, had, has⟩ = false) := by show _ = _; simp [dOk, h1]
          clear h1
          go_wp2_with fail
          go_quiet ((go_at_call 104; exact callsQuiet (HIN.out _)))
          go_wp2_with fail
          go_ret
          exact ⟨by rw [show r = false from HR.out.symm.trans (HN1.out HPB.out)]; rfl, below_drewN HW.out _⟩
        rw [h1] at HIN
        by_cases h2 : old.size ≤ 90
        case neg =>
          have HPB : Hid (dOk ⟨key, old, new, had, has⟩ = false) := by show _ = _; simp [dOk, h2]
          have g2 : decide ((90 : Int) < (old.size : Int)) = true := decide_eq_true (by omega)
          clear h1
          go_wp2_with fail
          go_quiet ((go_at_call 104; exact callsQuiet (HIN.out _)))
          go_wp2_with fail
          go_ret
          exact ⟨by rw [show r = false from HR.out.symm.trans (HN1.out HPB.out)]; rfl, below_drewN HW.out _⟩
        have g2 : decide ((90 : Int) < (old.size : Int)) = false := decide_eq_false (by omega)
        by_cases h3 : new.size ≤ 90
        case neg =>
          have HPB : Hid (dOk ⟨key, old, new, had, has⟩ = false) := by show _ = _; simp [dOk, h3]
          have g3 : decide ((90 : Int) < (new.size : Int)) = true := decide_eq_true (by omega)
          clear h1
          go_wp2_with fail
          go_quiet ((go_at_call 104; exact callsQuiet (HIN.out _)))
          go_wp2_with fail
          go_ret
          exact ⟨by rw [show r = false from HR.out.symm.trans (HN1.out HPB.out)]; rfl, below_drewN HW.out _⟩
        have g3 : decide ((90 : Int) < (new.size : Int)) = false := decide_eq_false (by omega)
        have e0 : (⟨#[]⟩ : ByteArray).toList.isEmpty = true := by rw [ByteArray.toList_eq]; rfl
        cases had <;> cases has
        · have HPB : Hid (dOk ⟨key, old, new, false, false⟩ = false) := by show _ = _; simp [dOk]
          clear h1
          go_wp2_with fail
          go_quiet ((go_at_call 104; exact callsQuiet (HIN.out _)))
          go_wp2_with fail
          go_ret
          exact ⟨by rw [show r = false from HR.out.symm.trans (HN1.out HPB.out)]; rfl, below_drewN HW.out _⟩
        · by_cases h4 : old = ⟨#[]⟩
          case neg =>
            have f4 := notEmpty h4
            have HPB : Hid (dOk ⟨key, old, new, false, true⟩ = false) := by show _ = _; simp [dOk, h4]
            clear h1
            go_wp2_with fail
            go_quiet ((go_at_call 104; exact callsQuiet (HIN.out _)))
            go_wp2_with fail
            go_ret
            exact ⟨by rw [show r = false from HR.out.symm.trans (HN1.out HPB.out)]; rfl, below_drewN HW.out _⟩
          subst h4
          have HPB : Hid (dOk ⟨key, ⟨#[]⟩, new, false, true⟩ = true) := by show _ = _; simp [dOk, h1, h2, h3]
          clear h1
          go_wp2_with fail
          go_quiet ((go_at_call 104; exact callsQuiet (HIN.out _)))
          go_wp2_with fail
          go_roundw
          case rel => exact ⟨1, by omega, by go_num, HST.out HPB.out (fun h => by omega), (Below.block (B := wr.heap.size) (by repeat (first | exact Below.refl _ _ | assumption | refine Below.drew ?_ | refine below_drewN ?_ _ | refine Below.setCell ?_ (by first | exact Nat.le_refl _ | exact Below.size (by assumption) | (simp; done) | (simp; omega) | omega) _ | refine Below.alloc ?_ (by first | exact Nat.le_refl _ | exact Below.size (by assumption) | (simp; done) | (simp; omega) | omega) _)) _ (by omega)).trans HE.out, below_drewN HW.out _⟩
          case measure => simp [intOf]; omega
        · by_cases h4 : new = ⟨#[]⟩
          case neg =>
            have f4 := notEmpty h4
            have HPB : Hid (dOk ⟨key, old, new, true, false⟩ = false) := by show _ = _; simp [dOk, h4]
            clear h1
            go_wp2_with fail
            go_quiet ((go_at_call 104; exact callsQuiet (HIN.out _)))
            go_wp2_with fail
            go_ret
            exact ⟨by rw [show r = false from HR.out.symm.trans (HN1.out HPB.out)]; rfl, below_drewN HW.out _⟩
          subst h4
          have HPB : Hid (dOk ⟨key, old, ⟨#[]⟩, true, false⟩ = true) := by show _ = _; simp [dOk, h1, h2, h3]
          clear h1
          go_wp2_with fail
          go_quiet ((go_at_call 104; exact callsQuiet (HIN.out _)))
          go_wp2_with fail
          go_roundw
          case rel => exact ⟨1, by omega, by go_num, HST.out HPB.out (fun h => by omega), (Below.block (B := wr.heap.size) (by repeat (first | exact Below.refl _ _ | assumption | refine Below.drew ?_ | refine below_drewN ?_ _ | refine Below.setCell ?_ (by first | exact Nat.le_refl _ | exact Below.size (by assumption) | (simp; done) | (simp; omega) | omega) _ | refine Below.alloc ?_ (by first | exact Nat.le_refl _ | exact Below.size (by assumption) | (simp; done) | (simp; omega) | omega) _)) _ (by omega)).trans HE.out, below_drewN HW.out _⟩
          case measure => simp [intOf]; omega
        · have HPB : Hid (dOk ⟨key, old, new, true, true⟩ = true) := by show _ = _; simp [dOk, h1, h2, h3]
          clear h1
          go_wp2_with fail
          go_quiet ((go_at_call 104; exact callsQuiet (HIN.out _)))
          go_wp2_with fail
          go_roundw
          case rel => exact ⟨1, by omega, by go_num, HST.out HPB.out (fun h => by omega), (Below.block (B := wr.heap.size) (by repeat (first | exact Below.refl _ _ | assumption | refine Below.drew ?_ | refine below_drewN ?_ _ | refine Below.setCell ?_ (by first | exact Nat.le_refl _ | exact Below.size (by assumption) | (simp; done) | (simp; omega) | omega) _ | refine Below.alloc ?_ (by first | exact Nat.le_refl _ | exact Below.size (by assumption) | (simp; done) | (simp; omega) | omega) _)) _ (by omega)).trans HE.out, below_drewN HW.out _⟩
          case measure => simp [intOf]; omega
    · go_wp2
      go_ret
      exact ⟨by rw [show r = true from HR.out.symm.trans (okDs_true HG.out (by omega))]; rfl, hb⟩
end Go.Proofs.Ytlfnpnkpjdmonaa
