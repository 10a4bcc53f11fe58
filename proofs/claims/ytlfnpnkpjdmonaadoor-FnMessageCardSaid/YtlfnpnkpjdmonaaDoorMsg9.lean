import Derived.Test.YtlfnpnkpjdmonaaDoorMsg8
set_option linter.unusedVariables false
set_option linter.unusedSimpArgs false
namespace Go.Proofs.YtlfnpnkpjdmonaaDoor
open Go.RowKit

/-! ### the first field of a name -/
def sameL (a b : List UInt8) : Bool := a.map lowB == b.map lowB
def fieldR (fs : List Pr) (nl : List UInt8) : ByteArray × Bool := match fs.find? (fun p => sameL p.1.data.toList nl) with | some p => (p.2, true) | none => (⟨#[]⟩, false)
theorem fieldR_at {fs : List Pr} {nl : List UInt8} {k : Nat} (h : k < fs.length) (hk : sameL fs[k].1.data.toList nl = true) (hb : ∀ p ∈ fs.take k, sameL p.1.data.toList nl = false) : fieldR fs nl = (fs[k].2, true) := by
  unfold fieldR
  have e : fs.find? (fun p => sameL p.1.data.toList nl) = some fs[k] := by
    conv => lhs; rw [← List.take_append_drop k fs]
    rw [List.find?_append, List.find?_eq_none.2 (fun p hp => by rw [hb p hp]; simp), List.drop_eq_getElem_cons h]
    simp [List.find?, hk]
  rw [e]
theorem fieldR_none {fs : List Pr} {nl : List UInt8} (hb : ∀ p ∈ fs, sameL p.1.data.toList nl = false) : fieldR fs nl = (⟨#[]⟩, false) := by
  unfold fieldR
  rw [List.find?_eq_none.2 (fun p hp => by rw [hb p hp]; simp)]
theorem bs_eta' (s : ByteArray) : s = bs s.data.toList := by cases s; rfl
set_option maxRecDepth 100000 in
set_option maxHeartbeats 1000000 in
theorem field1_any (a nl : List UInt8) (v : ByteArray) (g : Nat) (w : World) (hg : w.cell? ⟨g, 0, none⟩ = some (.string (bs nl))) (ha : a.length ≤ 1048576) (hn : nl.length ≤ 1048576) :
    Calls Tryd.prog 65 #[.agg #[.string (bs a), .string v], .pointer (some ⟨g, 0, none⟩)] w fun e w' => e = .returned (.bool (sameL a nl)) ∧ Below w.heap.size w w' := by
  have hgl : g < w.heap.size := block_lt_of_cell hg
  have hb0 : Below w.heap.size w (w.alloc (.cells #[.string (bs a), .string v] 49)) := by repeat (first | exact Below.refl _ _ | assumption | refine Below.drew ?_ | refine below_drewN ?_ _ | refine Below.setCell ?_ (by first | exact Nat.le_refl _ | exact Below.size (by assumption) | (simp; done) | (simp; omega) | omega) _ | refine Below.alloc ?_ (by first | exact Nat.le_refl _ | exact Below.size (by assumption) | (simp; done) | (simp; omega) | omega) _)
  have hsz0 : (w.alloc (.cells #[.string (bs a), .string v] 49)).heap.size = w.heap.size + 1 := by simp
  have HC : Hid (∀ W : World, Below (w.alloc (.cells #[.string (bs a), .string v] 49)).heap.size (w.alloc (.cells #[.string (bs a), .string v] 49)) W → W.cell? ⟨w.heap.size, 0, none⟩ = some (.string (bs a)) ∧ W.cell? ⟨g, 0, none⟩ = some (.string (bs nl))) := fun W hW =>
    ⟨(hW.cell (p := ⟨w.heap.size, 0, none⟩) (by rw [hsz0]; exact Nat.lt_succ_self _)).trans (by simp [go_sem]), (hW.cell (p := ⟨g, 0, none⟩) (by rw [hsz0]; exact Nat.lt_succ_of_lt hgl)).trans ((hb0.cell (p := ⟨g, 0, none⟩) hgl).trans hg)⟩
  have HR : Hid (sameL a nl = (a.map lowB == nl.map lowB)) := rfl
  have HL1 := Lib.hid (fun W => lower_any a W ha)
  have HL2 := Lib.hid (fun W => lower_any nl W hn)
  have HB0 := Lib.hid hb0
  have HSZ := Lib.hid hsz0
  generalize sameL a nl = r at HR ⊢
  generalize hx : a.map lowB = x at HR HL1
  generalize hy : nl.map lowB = y at HR HL2
  have h00 : (w.alloc (.cells #[.string (bs a), .string v] 49)).cell? ⟨g, 0, none⟩ = some (.string (bs nl)) := (HC.out _ (Below.refl _ _)).2
  clear hb0 hsz0 hg hx hy
  go_enter Tryd.func65, Tryd.ntmps65
  go_wp2_with fail
  go_region_held3 (fun w' => w'.cell? ⟨w.heap.size, 0, none⟩ = some (.string (bs a)) ∧ w'.cell? ⟨g, 0, none⟩ = some (.string (bs nl)))
    ((refine HC.out _ ?_; first | exact hb3 | exact hb2 | exact Below.refl _ _ | exact (Below.refl _ _).drew | exact below_drewN (Below.refl _ _) _))
    (first
      | (go_at_call 66; (with_reducible refine (HL1.out _).mono ?_); rintro e w2 ⟨rfl, hb2'⟩; have hb2 : Below (w.alloc (.cells #[.string (bs a), .string v] 49)).heap.size (w.alloc (.cells #[.string (bs a), .string v] 49)) w2 := Below.trans (by first | exact Below.refl _ _ | exact (Below.refl _ _).drew | exact below_drewN (Below.refl _ _) _) (hb2'.mono (by first | exact Nat.le_refl _ | (simp; done))))
      | (go_at_call 66; (with_reducible refine (HL2.out _).mono ?_); rintro e w3 ⟨rfl, hb3'⟩; have hb3 : Below (w.alloc (.cells #[.string (bs a), .string v] 49)).heap.size (w.alloc (.cells #[.string (bs a), .string v] 49)) w3 := below_after hb2 hb3')
      | fail)
  all_goals
    have HB3 := Lib.hid (Below.trans HB0.out (hb3.mono (by rw [HSZ.out]; omega)))
    clear hb2 hb3 hb2' hb3' h00
    go_wp2_with fail
    go_ret
    exact ⟨by rw [HR.out]; rfl, HB3.out⟩
def IdxF (fs : List Pr) (nl : List UInt8) (w : World) (e : Ending) (w' : World) : Prop := ∃ n : Int, e = .returned (.int .i64 n) ∧ ((n = -1 ∧ fieldR fs nl = (⟨#[]⟩, false)) ∨ ∃ (k : Nat) (_ : k < fs.length), n = k ∧ fieldR fs nl = (fs[k].2, true)) ∧ Below w.heap.size w w'
set_option maxRecDepth 100000 in
set_option maxHeartbeats 1000000 in
theorem indexField_any (A : Option Addr) (c : Nat) (fs : List Pr) (nl : List UInt8) (g : Nat) (w : World) (hx : Rd w w.heap.size A (flat encP fs)) (hg : w.cell? ⟨g, 0, none⟩ = some (.string (bs nl))) (hn : nl.length ≤ 1048576) (hs : ∀ p ∈ fs, p.1.size ≤ 1048576) (hl : fs.length ≤ 1048576) :
    Calls Tryd.prog 64 #[.slice A fs.length c, .func (.func 65) #[] #[.pointer (some ⟨g, 0, none⟩)]] w (IdxF fs nl w) := by
  have HX := Lib.hid hx
  have HS := Lib.hid hs
  have HG := Lib.hid hg
  have hgl : g < w.heap.size := block_lt_of_cell hg
  have HGL := Lib.hid hgl
  clear hx hs hg hgl
  go_enter Tryd.func64, Tryd.ntmps64
  go_wp2_with fail
  go_loopw [8] (fun i wr => ∃ k : Nat, k ≤ fs.length ∧ i = .int .i64 k ∧ (∀ p ∈ fs.take k, sameL p.1.data.toList nl = false) ∧ Below w.heap.size w wr) (fun i _ => fs.length - (intOf i).toNat)
  case atStart => exact ⟨0, Nat.zero_le _, rfl, by simp, Below.refl _ _⟩
  case round =>
    obtain ⟨k, hk, rfl, hg, hb⟩ := hrel
    have HK := Lib.hid hg
    clear hg
    by_cases hlt : k < fs.length
    · obtain ⟨ad, rfl, hbl, h1, h2⟩ := (HX.out.below hb).pr hlt
      have hgw : wr.cell? ⟨g, 0, none⟩ = some (.string (bs nl)) := (hb.cell (p := ⟨g, 0, none⟩) HGL.out).trans HG.out
      have HF := Lib.hid (field1_any fs[k].1.data.toList nl fs[k].2 g wr hgw (by have := HS.out _ (List.getElem_mem hlt); simpa using this) hn)
      rw [← bs_eta' fs[k].1] at HF
      have HAT := Lib.hid (fun h => fieldR_at (nl := nl) hlt h HK.out)
      have HTK : Hid (fs.take (k + 1) = fs.take k ++ [fs[k]]) := List.take_succ_eq_append_getElem hlt
      obtain ⟨m, hm⟩ : ∃ m, m = fs[k] := ⟨_, rfl⟩
      rw [← hm] at h1 h2 HF HTK
      have HM := Lib.hid hm
      have HB := Lib.hid hb
      clear hm hb hgw
      go_wp2_with fail
      refine HF.out.mono ?_
      rintro e w2 ⟨rfl, hb2⟩
      have HB2 := Lib.hid (below_after HB.out hb2)
      clear hb2 HF
      cases hok : sameL m.1.data.toList nl with
      | false =>
        have HOK := Lib.hid hok
        clear hok
        go_wp2_with fail
        go_roundw
        case rel =>
          refine ⟨k + 1, hlt, by go_num, fun x hx => ?_, HB2.out⟩
          rw [HTK.out, List.mem_append] at hx
          rcases hx with hx | hx
          · exact HK.out x hx
          · rw [List.mem_singleton.1 hx]; exact HOK.out
        case measure => simp [intOf]; omega
      | true =>
        have HOK := Lib.hid hok
        clear hok
        go_wp2_with fail
        go_ret
        exact ⟨k, rfl, .inr ⟨k, hlt, rfl, HAT.out (by rw [← HM.out]; exact HOK.out)⟩, HB2.out⟩
    · go_wp2_with fail
      go_ret
      exact ⟨-1, rfl, .inl ⟨rfl, fieldR_none fun p hp => HK.out p (by rwa [List.take_of_length_le (by omega)])⟩, hb⟩
end Go.Proofs.YtlfnpnkpjdmonaaDoor
