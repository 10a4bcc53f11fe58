import Derived.Test.YtlfnpnkpjdmonaaCrc
import Derived.Test.YtlfnpnkpjdmonaaOrd
import Derived.Deep.RegionHeld3
set_option linter.unusedVariables false
set_option linter.unusedSimpArgs false
namespace Go.Proofs.Ytlfnpnkpjdmonaa
open Go.RowKit

/-! ### bytes with their sum behind -/
def sealM (l : List UInt8) : List UInt8 := l ++ nb (crcM l) 4
def unsM (l : List UInt8) : Option (List UInt8) := if l.length < 4 then none else if sealM (l.take (l.length - 4)) = l then some (l.take (l.length - 4)) else none
theorem addS {a b c : List UInt8} (h : a ++ b = c) (hl : a.length + b.length ≤ 1000000) : ∀ w : World, (Op.stringOp .add (bs a) (bs b)).run Try.prog w = .ok (.string (bs c)) w := fun w => by
  rw [run_string_add_sum w _ _ (by simp only [ByteArray.size, List.size_toArray]; omega), bs_append, h]
set_option maxRecDepth 100000 in
theorem sealed_any (l : List UInt8) (w : World) (hl : l.length ≤ 100000) : Calls Try.prog 230 #[.string (bs l)] w fun e w' => e = .returned (.string (bs (sealM l))) ∧ Below w.heap.size w w' := by
  have ha := addS (a := l) (b := nb (crcM l) 4) (c := sealM l) rfl (by rw [nb_len]; omega)
  have hlt := crcM_lt l
  generalize sealM l = N at *
  go_enter Try.func230, Try.ntmps230
  go_wp2_with fail
  refine (sumOf_any l _ (by omega)).mono ?_
  rintro e w1 ⟨rfl, hb1⟩
  have HB1 := Lib.hid hb1
  clear hb1
  go_wp2_with fail
  refine (inBytes_any (crcM l) 4 _ (by omega) (by omega)).mono ?_
  rintro e w2 ⟨rfl, hb2⟩
  have HB2 := Lib.hid (below_after HB1.out hb2)
  clear hb2
  go_wp2_with fail
  go_ret
  exact ⟨rfl, HB2.out⟩
theorem sealM_len (l : List UInt8) : (sealM l).length = l.length + 4 := by rw [sealM, List.length_append, nb_len]
set_option maxRecDepth 100000 in
theorem unsealed_any (l : List UInt8) (w : World) (hl : l.length ≤ 65536) : Calls Try.prog 220 #[.string (bs l)] w fun e w' => ∃ x : List UInt8, e = .returned (.tuple #[.string (bs x), .bool (unsM l).isSome]) ∧ (∀ y, unsM l = some y → x = y) ∧ Below w.heap.size w w' := by
  have hsz : (bs l).size = l.length := by simp [ByteArray.size]
  by_cases h4 : l.length < 4
  · have HE : Hid (unsM l = none) := if_pos h4
    go_enter Try.func220, Try.ntmps220
    go_wp2_with fail
    go_ret2
    exact ⟨[], by rw [HE.out]; rfl, (fun y hy => by rw [HE.out] at hy; cases hy), Below.refl _ _⟩
  · have HE : Hid (unsM l = if sealM (l.take (l.length - 4)) = l then some (l.take (l.length - 4)) else none) := if_neg h4
    have hx : (bs l).extract 0 (l.length - 4) = bs (l.take (l.length - 4)) := by rw [bs_cut]; simp
    have hxl : (l.take (l.length - 4)).length ≤ 65536 := by rw [List.length_take]; omega
    generalize l.take (l.length - 4) = x at *
    have q1 : IntKind.i64.wrap ((l.length : Int) - 4) = (l.length : Int) - 4 := IntWalk.i64_in _ (by omega)
    have q2 : ((l.length : Int) - 4).toNat = l.length - 4 := by omega
    have HS : Hid ((unsM l).isSome = (sealM x == l)) := by
      show _ = _
      rw [HE.out]
      by_cases h : sealM x = l
      · rw [if_pos h, h]; simp
      · rw [if_neg h, beq_eq_false_iff_ne.2 h]; rfl
    have HV : Hid (∀ y, unsM l = some y → x = y) := fun y hy => by
      rw [HE.out] at hy
      split at hy
      · exact Option.some.inj hy
      · cases hy
    go_enter Try.func220, Try.ntmps220
    go_wp2_with fail
    refine (sealed_any x _ (by omega)).mono ?_
    rintro e w1 ⟨rfl, hb1⟩
    have HB1 := Lib.hid hb1
    clear hb1
    go_wp2_with fail
    go_ret2
    exact ⟨x, by rw [HS.out]; rfl, HV.out, HB1.out⟩
theorem nb_be_four {l : List UInt8} (h : l.length = 4) : nb (be l) 4 = l := by
  match l, h with
  | [a, b, c, d], _ =>
    have ha := a.toNat_lt
    have hb := b.toNat_lt
    have hc := c.toNat_lt
    have hd := d.toNat_lt
    have hz : be [a, b, c, d] = ((a.toNat * 256 + b.toNat) * 256 + c.toNat) * 256 + d.toNat := by simp [be]
    rw [hz]
    simp only [nb, List.nil_append, List.cons_append]
    have e1 : (((a.toNat * 256 + b.toNat) * 256 + c.toNat) * 256 + d.toNat) % 256 = d.toNat := by omega
    have e2 : (((a.toNat * 256 + b.toNat) * 256 + c.toNat) * 256 + d.toNat) / 256 % 256 = c.toNat := by omega
    have e3 : (((a.toNat * 256 + b.toNat) * 256 + c.toNat) * 256 + d.toNat) / 256 / 256 % 256 = b.toNat := by omega
    have e4 : (((a.toNat * 256 + b.toNat) * 256 + c.toNat) * 256 + d.toNat) / 256 / 256 / 256 % 256 = a.toNat := by omega
    rw [e1, e2, e3, e4]
    simp
theorem crc_check {x y : List UInt8} (h : y.length = 4) : (crcM x = be y) ↔ nb (crcM x) 4 = y := by
  have hlt := crcM_lt x
  constructor
  · intro e
    rw [e]
    have := nb_be_four h
    exact this
  · intro e
    rw [← e, be_nb, Nat.mod_eq_of_lt (by omega)]
set_option maxRecDepth 100000 in
set_option maxHeartbeats 2000000 in
theorem l03Unseal_any (l : List UInt8) (w : World) (hl : l.length ≤ 65536) : Calls Try.prog 152 #[.string (bs l)] w fun e w' => ∃ x : List UInt8, e = .returned (.tuple #[.string (bs x), .bool (unsM l).isSome]) ∧ (∀ y, unsM l = some y → x = y) ∧ Below w.heap.size w w' := by
  have hsz : (bs l).size = l.length := by simp [ByteArray.size]
  have q1 : IntKind.i64.wrap ((l.length : Int) - 4) = (l.length : Int) - 4 := IntWalk.i64_in _ (by omega)
  by_cases h4 : l.length < 4
  · have HE : Hid (unsM l = none) := if_pos h4
    have q3 : decide ((l.length : Int) - 4 < 0) = true := by simp; omega
    go_enter Try.func152, Try.ntmps152
    go_wp2_with fail
    go_quiet (fail)
    go_wp2_with fail
    go_ret2
    exact ⟨[], by rw [HE.out]; rfl, (fun y hy => by rw [HE.out] at hy; cases hy), by repeat (first | exact Below.refl _ _ | assumption | refine Below.drew ?_ | refine below_drewN ?_ _ | refine Below.setCell ?_ (by first | exact Nat.le_refl _ | exact Below.size (by assumption) | (simp; done) | (simp; omega) | omega) _ | refine Below.alloc ?_ (by first | exact Nat.le_refl _ | exact Below.size (by assumption) | (simp; done) | (simp; omega) | omega) _)⟩
  · have HE : Hid (unsM l = if sealM (l.take (l.length - 4)) = l then some (l.take (l.length - 4)) else none) := if_neg h4
    have hx : (bs l).extract 0 (l.length - 4) = bs (l.take (l.length - 4)) := by rw [bs_cut]; simp
    have hy : (bs l).extract (l.length - 4) l.length = bs (l.drop (l.length - 4)) := by rw [bs_cut, List.take_of_length_le (by simp)]
    have hxl : (l.take (l.length - 4)).length ≤ 65536 := by rw [List.length_take]; omega
    have hyl : (l.drop (l.length - 4)).length = 4 := by rw [List.length_drop]; omega
    have hc : (sealM (l.take (l.length - 4)) = l) ↔ crcM (l.take (l.length - 4)) = be (l.drop (l.length - 4)) := by
      rw [crc_check hyl]
      unfold sealM
      constructor
      · intro h
        have h2 := congrArg (List.drop (l.length - 4)) h
        rwa [List.drop_left' (by rw [List.length_take]; omega)] at h2
      · intro h
        rw [h, List.take_append_drop]
    generalize l.take (l.length - 4) = x at *
    generalize l.drop (l.length - 4) = y at *
    have hq := crcM_lt x
    have HV : Hid (∀ z, unsM l = some z → x = z) := fun z hz => by
      rw [HE.out] at hz
      split at hz
      · exact Option.some.inj hz
      · cases hz
    have HS : Hid ((unsM l).isSome = decide (crcM x = be y)) := by
      show _ = _
      rw [HE.out]
      by_cases h : sealM x = l
      · rw [if_pos h, decide_eq_true (hc.1 h)]; rfl
      · rw [if_neg h, decide_eq_false (fun e => h (hc.2 e))]; rfl
    have q3 : decide ((l.length : Int) - 4 < 0) = false := by simp only [decide_eq_false_iff_not]; omega
    have q2 : ((l.length : Int) - 4).toNat = l.length - 4 := by omega
    have b1 : (0 : Int) ≤ (l.length : Int) - 4 := by omega
    have b2 : (l.length : Int) - 4 ≤ (l.length : Int) := by omega
    have b3 : (4 : Int) ≤ (l.length : Int) := by omega
    have b4 : decide ((l.length : Int) < 4) = false := by simp only [decide_eq_false_iff_not]; omega
    obtain ⟨gB, cB, wB, hcv, hbB, hgB, _, hrB⟩ := conv_bytes_rd w.drew x
    rw [show w.drew.heap.size = w.heap.size from rfl] at hgB
    subst hgB
    clear HE hc
    go_enter Try.func152, Try.ntmps152
    go_wp2_with fail
    refine wp_region_noPanic ?_
    refine wp_region_held_drew (S := fun _ => True) (by kernel_rfl) ?_ (fun hHeld => ?_)
    · (try dsimp only)
      try trivial
    refine wpAnyH_take (i := 0) (oi := ⟨some 8, _, _, _, _, _⟩) (v := ?_) rfl (by kernel_rfl) (by kernel_rfl) (by kernel_rfl) (fun _ _ _ h => h) (Or.inl ⟨by simp [Region.wanted, yielded, undef], ?_⟩) (by assumption) ?_
    rotate_left
    · ((intro w hSw; (try dsimp only at hSw); go_simp) <;> with_reducible rfl)
    (try simp only [Act.put, List.setIfInBounds_toArray, List.set_cons_zero, List.set_cons_succ])
    refine wpAnyH_take (i := 1) (oi := ⟨some 9, _, _, _, _, _⟩) (v := ?_) rfl (by kernel_rfl) (by kernel_rfl) (by kernel_rfl) (fun _ _ _ h => h) (Or.inl ⟨by simp [Region.wanted, yielded, undef], ?_⟩) (by assumption) ?_
    rotate_left
    · ((intro w hSw; (try dsimp only at hSw); go_simp) <;> with_reducible rfl)
    (try simp only [Act.put, List.setIfInBounds_toArray, List.set_cons_zero, List.set_cons_succ])
    refine wpAnyH_take (i := 2) (oi := ⟨some 10, _, _, _, _, _⟩) (v := ?_) rfl (by kernel_rfl) (by kernel_rfl) (by kernel_rfl) (fun _ _ _ h => h) (Or.inl ⟨by simp [Region.wanted, yielded, undef], ?_⟩) (by assumption) ?_
    rotate_left
    · ((intro w hSw; (try dsimp only at hSw); go_simp) <;> with_reducible rfl)
    (try simp only [Act.put, List.setIfInBounds_toArray, List.set_cons_zero, List.set_cons_succ])
    refine wpAnyH_take (i := 3) (oi := ⟨some 11, _, _, _, _, _⟩) (v := ?_) rfl (by kernel_rfl) (by kernel_rfl) (by kernel_rfl) (fun _ _ _ h => h) (Or.inl ⟨by simp [Region.wanted, yielded, undef], ?_⟩) (by assumption) ?_
    rotate_left
    · ((intro w hSw; (try dsimp only at hSw); go_simp) <;> with_reducible rfl)
    (try simp only [Act.put, List.setIfInBounds_toArray, List.set_cons_zero, List.set_cons_succ])
    refine wpAnyH_take (i := 4) (oi := ⟨some 12, _, _, _, _, _⟩) (v := ?_) rfl (by kernel_rfl) (by kernel_rfl) (by kernel_rfl) (fun _ _ _ h => h) (Or.inl ⟨by simp [Region.wanted, yielded, undef], ?_⟩) (by assumption) ?_
    rotate_left
    · ((intro w hSw; (try dsimp only at hSw); go_simp) <;> with_reducible rfl)
    (try simp only [Act.put, List.setIfInBounds_toArray, List.set_cons_zero, List.set_cons_succ])
    refine wpAnyH_take (i := 5) (oi := ⟨some 13, _, _, _, _, _⟩) (v := ?_) rfl (by kernel_rfl) (by kernel_rfl) (by kernel_rfl) (fun _ _ _ h => h) (Or.inl ⟨by simp [Region.wanted, yielded, undef], ?_⟩) (by assumption) ?_
    rotate_left
    · ((intro w hSw; (try dsimp only at hSw); go_simp) <;> with_reducible rfl)
    (try simp only [Act.put, List.setIfInBounds_toArray, List.set_cons_zero, List.set_cons_succ])
    refine wpAnyH_take (i := 8) (oi := ⟨some 16, _, _, _, _, _⟩) (v := ?_) rfl (by kernel_rfl) (by kernel_rfl) (by kernel_rfl) (fun _ _ _ h => h) (Or.inl ⟨by simp [Region.wanted, yielded, undef], ?_⟩) (by assumption) ?_
    rotate_left
    · ((intro w hSw; (try dsimp only at hSw); go_simp) <;> with_reducible rfl)
    (try simp only [Act.put, List.setIfInBounds_toArray, List.set_cons_zero, List.set_cons_succ])
    refine wpAnyH_take (i := 9) (oi := ⟨some 17, _, _, _, _, _⟩) (v := ?_) rfl (by kernel_rfl) (by kernel_rfl) (by kernel_rfl) (fun _ _ _ h => h) (Or.inl ⟨by simp [Region.wanted, yielded, undef], ?_⟩) (by assumption) ?_
    rotate_left
    · ((intro w hSw; (try dsimp only at hSw); go_simp) <;> with_reducible rfl)
    (try simp only [Act.put, List.setIfInBounds_toArray, List.set_cons_zero, List.set_cons_succ])
    refine wpAnyH_take (i := 10) (oi := ⟨some 18, _, _, _, _, _⟩) (v := ?_) rfl (by kernel_rfl) (by kernel_rfl) (by kernel_rfl) (fun _ _ _ h => h) (Or.inl ⟨by simp [Region.wanted, yielded, undef], ?_⟩) (by assumption) ?_
    rotate_left
    · ((intro w hSw; (try dsimp only at hSw); go_simp) <;> with_reducible rfl)
    (try simp only [Act.put, List.setIfInBounds_toArray, List.set_cons_zero, List.set_cons_succ])
    refine wpAnyH_ready (rs := [6]) (by kernel_rfl) (by simp) ?_
    refine (AllReadyH.cons (o := ⟨some 14, _, _, _, _, _⟩) rfl (fun K hK => ?_) AllReadyH.nil)
    go_simp
    refine hK.out _ _ ?_ (fun hHeld => ?_)
    · (try dsimp only)
      try trivial
    clear hK K
    (try simp only [Act.put, List.setIfInBounds_toArray, List.set_cons_zero, List.set_cons_succ])
    refine wpAnyH_ready (rs := [7]) (by kernel_rfl) (by simp) ?_
    refine (AllReadyH.cons (o := ⟨some 15, _, _, _, _, _⟩) rfl (fun K hK => ?_) AllReadyH.nil)
    go_simp
    refine (l01Check_any (some ⟨w.heap.size, 0, none⟩) cB x wB hrB (by omega)).mono ?_
    rintro e w2 ⟨rfl, hb2⟩
    go_wp2_with fail
    refine hK.out _ _ ?_ (fun hHeld => ?_)
    · (try dsimp only)
      try trivial
    clear hK K
    (try simp only [Act.put, List.setIfInBounds_toArray, List.set_cons_zero, List.set_cons_succ])
    refine wpAnyH_ready (rs := [11]) (by kernel_rfl) (by simp) ?_
    refine (AllReadyH.cons (o := ⟨some 19, _, _, _, _, _⟩) rfl (fun K hK => ?_) AllReadyH.nil)
    go_simp
    refine (l01Of_any y _ (by omega)).mono ?_
    rintro e w3 ⟨rfl, rfl⟩
    go_wp2_with fail
    refine hK.out _ _ ?_ (fun hHeld => ?_)
    · (try dsimp only)
      try trivial
    clear hK K
    (try simp only [Act.put, List.setIfInBounds_toArray, List.set_cons_zero, List.set_cons_succ])
    refine wpAnyH_take (i := 12) (oi := ⟨some 20, _, _, _, _, _⟩) (v := ?_) rfl (by kernel_rfl) (by kernel_rfl) (by kernel_rfl) (fun _ _ _ h => h) (Or.inl ⟨by simp [Region.wanted, yielded, undef], ?_⟩) (by assumption) ?_
    rotate_left
    · ((intro w hSw; (try dsimp only at hSw); go_simp) <;> with_reducible rfl)
    (try simp only [Act.put, List.setIfInBounds_toArray, List.set_cons_zero, List.set_cons_succ])
    refine wpAnyH_take (i := 13) (oi := ⟨some 21, _, _, _, _, _⟩) (v := ?_) rfl (by kernel_rfl) (by kernel_rfl) (by kernel_rfl) (fun _ _ _ h => h) (Or.inl ⟨by simp [Region.wanted, yielded, undef], ?_⟩) (by assumption) ?_
    rotate_left
    · ((intro w hSw; (try dsimp only at hSw); go_simp) <;> with_reducible rfl)
    (try simp only [Act.put, List.setIfInBounds_toArray, List.set_cons_zero, List.set_cons_succ])
    refine wpAnyH_done (by kernel_rfl) ?_ _
    refine NoPanic.normal ?_
    have HB2 : Hid (Below w.heap.size w w2) := below_after (below_after (Below.refl w.heap.size w).drew hbB) hb2
    clear hb2 hrB hbB hcv hHeld
    by_cases heq : crcM x = be y
    · have hv : ((crcM x : Int) != (be y : Int)) = false := by rw [heq]; simp
      go_wp2_with fail
      go_ret2
      exact ⟨x, by rw [HS.out, decide_eq_true heq]; rfl, HV.out, HB2.out⟩
    · have hv : ((crcM x : Int) != (be y : Int)) = true := by rw [bne_iff_ne]; omega
      go_wp2_with fail
      go_ret2
      exact ⟨[], by rw [HS.out, decide_eq_false heq]; rfl, (fun z hz => by have h := HS.out; rw [hz, decide_eq_false heq] at h; cases h), HB2.out⟩
end Go.Proofs.Ytlfnpnkpjdmonaa
