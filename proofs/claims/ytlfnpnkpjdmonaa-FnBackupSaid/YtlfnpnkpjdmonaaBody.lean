import Derived.Test.YtlfnpnkpjdmonaaBackup
import Derived.Test.YtlfnpnkpjdmonaaBuilderU
set_option linter.unusedVariables false
set_option linter.unusedSimpArgs false
namespace Go.Proofs.Ytlfnpnkpjdmonaa
open Go.RowKit

/-! ### the bytes of differences -/
def markD (d : Df) : Nat := (if d.had then 1 else 0) + (if d.has then 2 else 0)
def diffF (d : Df) : List UInt8 := nb (markD d) 1 ++ fieldsB [d.key.toList, d.old.toList, d.new.toList]
def bodyB (l : List Df) : List UInt8 := l.flatMap diffF
theorem diffF_len {d : Df} (h : DOk d) : (diffF d).length ≤ 218 := by
  have h1 : d.key.size ≤ 30 := withinB_le h.key
  have h2 := h.old
  have h3 := h.new
  simp only [diffF, fieldsB, List.length_cons, List.flatMap_cons, List.flatMap_nil, List.length_append, List.length_nil, nb_len, len_of]
  omega
theorem bodyB_len {l : List Df} (h : ∀ d ∈ l, DOk d) : (bodyB l).length ≤ l.length * 218 := by
  induction l with
  | nil => simp [bodyB]
  | cons p l ih =>
    have h1 := diffF_len (h p (List.mem_cons_self ..))
    have h2 := ih fun q hq => h q (List.mem_cons_of_mem _ hq)
    unfold bodyB at h2 ⊢
    rw [List.flatMap_cons, List.length_append, List.length_cons]
    omega
/-- a backup that lies in memory -/
structure BkAt (w : World) (g : Nat) (f t : ByteArray) (ch : Int) (D : Option Addr) (ds : List Df) (dc : Nat) (sm : Int) : Prop where
  c0 : w.cell? ⟨g, 0, none⟩ = some (.string f)
  c1 : w.cell? ⟨g, 1, none⟩ = some (.string t)
  c2 : w.cell? ⟨g, 2, none⟩ = some (.int .i64 ch)
  c3 : w.cell? ⟨g, 3, none⟩ = some (.slice D ds.length dc)
  c4 : w.cell? ⟨g, 4, none⟩ = some (.int .i64 sm)
  lt : g < w.heap.size
  rd : Rd w w.heap.size D (flat encD ds)
theorem BkAt.next {w w' : World} {g : Nat} {f t : ByteArray} {ch : Int} {D : Option Addr} {ds : List Df} {dc : Nat} {sm : Int} (h : BkAt w g f t ch D ds dc sm) (hb : Below w.heap.size w w') : BkAt w' g f t ch D ds dc sm :=
  ⟨(hb.cell (p := ⟨g, 0, none⟩) h.lt).trans h.c0, (hb.cell (p := ⟨g, 1, none⟩) h.lt).trans h.c1, (hb.cell (p := ⟨g, 2, none⟩) h.lt).trans h.c2, (hb.cell (p := ⟨g, 3, none⟩) h.lt).trans h.c3, (hb.cell (p := ⟨g, 4, none⟩) h.lt).trans h.c4, Nat.lt_of_lt_of_le h.lt hb.size, h.rd.next hb⟩
set_option maxRecDepth 100000 in
set_option maxHeartbeats 4000000 in
theorem body_any (g : Nat) (f t : ByteArray) (ch : Int) (D : Option Addr) (ds : List Df) (dc : Nat) (sm : Int) (w : World) (h : BkAt w g f t ch D ds dc sm) (hl : ds.length ≤ 120) (hs : ∀ d ∈ ds, DOk d) :
    Calls Try.prog 213 #[.pointer (some ⟨g, 0, none⟩)] w fun e w' => e = .returned (.string (bs (bodyB ds))) ∧ Below w.heap.size w w' := by
  have hb0 : Below w.heap.size w (w.alloc (.cells #[.pointer none, .slice none 0 0] 200)) := by repeat (first | exact Below.refl _ _ | assumption | refine Below.drew ?_ | refine below_drewN ?_ _ | refine Below.setCell ?_ (by first | exact Nat.le_refl _ | exact Below.size (by assumption) | (simp; done) | (simp; omega) | omega) _ | refine Below.alloc ?_ (by first | exact Nat.le_refl _ | exact Below.size (by assumption) | (simp; done) | (simp; omega) | omega) _)
  have H0 := Lib.hid (fresh_Bd w)
  have HX := Lib.hid h.rd
  have HS := Lib.hid hs
  have k3 := (hb0.cell (p := ⟨g, 3, none⟩) h.lt).trans h.c3
  clear h hs
  go_enter Try.func213, Try.ntmps213
  go_wp2_with fail
  clear k3
  go_loopw [12] (fun i wr => ∃ k : Nat, k ≤ ds.length ∧ i = .int .i64 k ∧ Bd w.heap.size w.heap.size (bodyB (ds.take k)) wr ∧ Below w.heap.size w wr) (fun i _ => ds.length - (intOf i).toNat)
  case atStart => exact ⟨0, Nat.zero_le _, rfl, H0.out, hb0⟩
  case round =>
    obtain ⟨k, hk, rfl, hd, hb⟩ := hrel
    have HD := Lib.hid hd
    clear hd H0 hb0
    have hzr : w.heap.size < wr.heap.size := HD.out.lt
    by_cases hlt : k < ds.length
    · obtain ⟨ad, rfl, hla, h0, h1, h2, h3, h4⟩ := (HX.out.below hb).df hlt
      have hok := HS.out _ (List.getElem_mem hlt)
      obtain ⟨d, hde⟩ : ∃ d, d = ds[k] := ⟨_, rfl⟩
      rw [← hde] at h0 h1 h2 h3 h4 hok
      have HDE := Lib.hid hde
      have hk1 : d.key.size ≤ 4194304 := by have : d.key.size ≤ 30 := withinB_le hok.key; omega
      have hk2 : d.old.size ≤ 4194304 := by have := hok.old; omega
      have hk3 : d.new.size ≤ 4194304 := by have := hok.new; omega
      have HDL := Lib.hid (diffF_len hok)
      have HBL : Hid ((bodyB (ds.take k)).length ≤ 26160) := by
        show _ ≤ _
        have h1 := bodyB_len (l := ds.take k) (fun q hq => HS.out q (List.mem_of_mem_take hq))
        rw [List.length_take] at h1
        omega
      have HB := Lib.hid hb
      clear hde hok hb
      obtain ⟨key, old, new, had, has⟩ := d
      have HAP := Lib.hid (bs_append (nb (markD ⟨key, old, new, had, has⟩) 1) (fieldsB [key.toList, old.toList, new.toList]))
      have hsz1 : (wr.alloc (.cells #[.string key, .string old, .string new, .bool had, .bool has] 145)).heap.size = wr.heap.size + 1 := by simp
      have HDU := Lib.hid HD.out.u
      have HBW : Hid (Below wr.heap.size wr (wr.alloc (.cells #[.string key, .string old, .string new, .bool had, .bool has] 145))) := by show Below _ _ _; repeat (first | exact Below.refl _ _ | assumption | refine Below.drew ?_ | refine below_drewN ?_ _ | refine Below.setCell ?_ (by first | exact Nat.le_refl _ | exact Below.size (by assumption) | (simp; done) | (simp; omega) | omega) _ | refine Below.alloc ?_ (by first | exact Nat.le_refl _ | exact Below.size (by assumption) | (simp; done) | (simp; omega) | omega) _)
      have HDU := Lib.hid HD.out.u
      have HBW : Hid (Below wr.heap.size wr (wr.alloc (.cells #[.string key, .string old, .string new, .bool had, .bool has] 145))) := by show Below _ _ _; repeat (first | exact Below.refl _ _ | assumption | refine Below.drew ?_ | refine below_drewN ?_ _ | refine Below.setCell ?_ (by first | exact Nat.le_refl _ | exact Below.size (by assumption) | (simp; done) | (simp; omega) | omega) _ | refine Below.alloc ?_ (by first | exact Nat.le_refl _ | exact Below.size (by assumption) | (simp; done) | (simp; omega) | omega) _)
      have HDU := Lib.hid HD.out.u
      have HBW : Hid (Below wr.heap.size wr (wr.alloc (.cells #[.string key, .string old, .string new, .bool had, .bool has] 145))) := by show Below _ _ _; repeat (first | exact Below.refl _ _ | assumption | refine Below.drew ?_ | refine below_drewN ?_ _ | refine Below.setCell ?_ (by first | exact Nat.le_refl _ | exact Below.size (by assumption) | (simp; done) | (simp; omega) | omega) _ | refine Below.alloc ?_ (by first | exact Nat.le_refl _ | exact Below.size (by assumption) | (simp; done) | (simp; omega) | omega) _)
      have HW : Hid (∀ w' : World, w'.heap[wr.heap.size]? = (wr.alloc (.cells #[.string key, .string old, .string new, .bool had, .bool has] 145)).heap[wr.heap.size]? → wr.heap.size + 1 ≤ w'.heap.size → w'.cell? ⟨wr.heap.size, 0, none⟩ = some (.string key) ∧ w'.cell? ⟨wr.heap.size, 1, none⟩ = some (.string old) ∧ w'.cell? ⟨wr.heap.size, 2, none⟩ = some (.string new) ∧ w'.cell? ⟨wr.heap.size, 3, none⟩ = some (.bool had) ∧ w'.cell? ⟨wr.heap.size, 4, none⟩ = some (.bool has) ∧ wr.heap.size + 1 ≤ w'.heap.size) := fun w' hbw hs => by
        have hn : w'.heap[wr.heap.size]? = some (.cells #[.string key, .string old, .string new, .bool had, .bool has] 145 (0, 0)) := hbw.trans (heap_alloc_new _ _)
        exact ⟨by rw [cell_of_row w' _ 0 _ _ _ hn]; rfl, by rw [cell_of_row w' _ 1 _ _ _ hn]; rfl, by rw [cell_of_row w' _ 2 _ _ _ hn]; rfl, by rw [cell_of_row w' _ 3 _ _ _ hn]; rfl, by rw [cell_of_row w' _ 4 _ _ _ hn]; rfl, hs⟩
      obtain ⟨nF, hzF, hnF⟩ : ∃ n, (bs (fieldsB [key.toList, old.toList, new.toList])).size = n ∧ n ≤ 218 := by
        refine ⟨_, rfl, ?_⟩
        have h1 := HDL.out
        simp only [diffF, List.length_append, nb_len] at h1
        simp only [ByteArray.size, List.size_toArray]
        omega
      have o1 : bits .or .i64 1 2 = 3 := by decide
      have o2 : bits .or .i64 1 0 = 1 := by decide
      have o3 : bits .or .i64 0 2 = 2 := by decide
      have o4 : bits .or .i64 0 0 = 0 := by decide
      cases had <;> cases has
      · have HAP3 : Hid (bs (nb 0 1) ++ bs (fieldsB [key.toList, old.toList, new.toList]) = bs (diffF ⟨key, old, new, false, false⟩)) := HAP.out
        have hz1 : (bs (nb 0 1)).size = 1 := by simp [ByteArray.size, nb_len]
        have hadd : ∀ w : World, (Op.stringOp .add (bs (nb 0 1)) (bs (fieldsB [key.toList, old.toList, new.toList]))).run Try.prog w = .ok (.string (bs (diffF ⟨key, old, new, false, false⟩))) w := fun w => by
          rw [run_string_add_sum w _ _ (by rw [hz1, hzF]; omega), HAP3.out]
        clear HAP
        go_wp2_with fail
        go_region_held3 (fun w' => w'.cell? ⟨wr.heap.size, 0, none⟩ = some (.string key) ∧ w'.cell? ⟨wr.heap.size, 1, none⟩ = some (.string old) ∧ w'.cell? ⟨wr.heap.size, 2, none⟩ = some (.string new) ∧ w'.cell? ⟨wr.heap.size, 3, none⟩ = some (.bool false) ∧ w'.cell? ⟨wr.heap.size, 4, none⟩ = some (.bool false) ∧ wr.heap.size + 1 ≤ w'.heap.size)
          ((first | exact HW.out _ hK4 hS4 | exact HW.out _ (Below.block (B := wr.heap.size + 1) (by repeat (first | exact Below.refl _ _ | assumption | refine Below.drew ?_ | refine below_drewN ?_ _ | refine Below.setCell ?_ (by first | exact Nat.le_refl _ | exact Below.size (by assumption) | (simp; done) | (simp; omega) | omega) _ | refine Below.alloc ?_ (by first | exact Nat.le_refl _ | exact Below.size (by assumption) | (simp; done) | (simp; omega) | omega) _)) _ (Nat.lt_succ_self _)) (by first | omega | (simp; done) | (simp; omega))))
          (first
            | (go_at_call 244; first | (with_reducible refine (bit_any false 1 _).mono ?_; rintro e w2 ⟨rfl, rfl⟩) | (with_reducible refine (bit_any false 2 _).mono ?_; rintro e w2 ⟨rfl, rfl⟩))
            | (go_at_call 198; refine (inBytes_any 0 1 _ (by omega) (by omega)).mono ?_; rintro e w2 ⟨rfl, hb2⟩; have hbI : Below (wr.heap.size + 1) (wr.alloc (.cells #[.string key, .string old, .string new, .bool false, .bool false] 145)) w2 := Below.trans (by repeat (first | exact Below.refl _ _ | assumption | refine Below.drew ?_ | refine below_drewN ?_ _ | refine Below.setCell ?_ (by first | exact Nat.le_refl _ | exact Below.size (by assumption) | (simp; done) | (simp; omega) | omega) _ | refine Below.alloc ?_ (by first | exact Nat.le_refl _ | exact Below.size (by assumption) | (simp; done) | (simp; omega) | omega) _)) (hb2.mono (by first | omega | (simp; done) | (simp; omega))); have hsI := hbI.size; rw [hsz1] at hsI)
            | (go_at_call 126; refine (fields3_any key old new _ _ (by first | exact rd_alloc _ _ _ _ _ (by simp) rfl | exact Rd.next (by exact rd_alloc _ _ _ _ _ (by simp) rfl) hb2) hk1 hk2 hk3).mono ?_; rintro e w3 ⟨rfl, hb3⟩; have hbF : Below (wr.heap.size + 1) (wr.alloc (.cells #[.string key, .string old, .string new, .bool false, .bool false] 145)) w3 := Below.trans (by repeat (first | exact Below.refl _ _ | assumption | refine Below.drew ?_ | refine below_drewN ?_ _ | refine Below.setCell ?_ (by first | exact Nat.le_refl _ | exact Below.size (by assumption) | (simp; done) | (simp; omega) | omega) _ | refine Below.alloc ?_ (by first | exact Nat.le_refl _ | exact Below.size (by assumption) | (simp; done) | (simp; omega) | omega) _)) (hb3.mono (by first | omega | (simp; done) | (simp; omega))); have hsF := hbF.size; rw [hsz1] at hsF)
            | (go_at_call 197; refine (writeStringU_any w.heap.size w.heap.size wr.heap.size _ (diffF ⟨key, old, new, false, false⟩) _ (HDU.out.below (Below.trans HBW.out (hbF.mono (Nat.le_succ _)))) (by have h1 := HBL.out; have h2 := HDL.out; omega) (by omega)).mono ?_; rintro e w4 ⟨rfl, hd4, hb4, hf4⟩; have hK4 := (hf4 wr.heap.size (Nat.le_refl _) (by omega)).trans (hbF.block _ (Nat.lt_succ_self _)); have hS4 : wr.heap.size + 1 ≤ w4.heap.size := Nat.le_trans hsF hb4.size; have HD4 := Lib.hid hd4; have HB4 : Hid (Below w.heap.size w w4) := (below_after HB.out (Below.trans HBW.out (hbF.mono (Nat.le_succ _)))).trans hb4)
            | fail)
        all_goals
          go_wp2_with fail
          go_roundw
          case rel =>
            refine ⟨k + 1, by omega, by go_num, ?_, HB4.out⟩
            have e : bodyB (ds.take (k + 1)) = bodyB (ds.take k) ++ diffF ⟨key, old, new, false, false⟩ := by
              unfold bodyB
              rw [flatMap_take _ _ _ hlt, ← HDE.out]
            rw [e]
            exact HD4.out
          case measure => simp [intOf]; omega
      · have HAP3 : Hid (bs (nb 2 1) ++ bs (fieldsB [key.toList, old.toList, new.toList]) = bs (diffF ⟨key, old, new, false, true⟩)) := HAP.out
        have hz1 : (bs (nb 2 1)).size = 1 := by simp [ByteArray.size, nb_len]
        have hadd : ∀ w : World, (Op.stringOp .add (bs (nb 2 1)) (bs (fieldsB [key.toList, old.toList, new.toList]))).run Try.prog w = .ok (.string (bs (diffF ⟨key, old, new, false, true⟩))) w := fun w => by
          rw [run_string_add_sum w _ _ (by rw [hz1, hzF]; omega), HAP3.out]
        clear HAP
        go_wp2_with fail
        go_region_held3 (fun w' => w'.cell? ⟨wr.heap.size, 0, none⟩ = some (.string key) ∧ w'.cell? ⟨wr.heap.size, 1, none⟩ = some (.string old) ∧ w'.cell? ⟨wr.heap.size, 2, none⟩ = some (.string new) ∧ w'.cell? ⟨wr.heap.size, 3, none⟩ = some (.bool false) ∧ w'.cell? ⟨wr.heap.size, 4, none⟩ = some (.bool true) ∧ wr.heap.size + 1 ≤ w'.heap.size)
          ((first | exact HW.out _ hK4 hS4 | exact HW.out _ (Below.block (B := wr.heap.size + 1) (by repeat (first | exact Below.refl _ _ | assumption | refine Below.drew ?_ | refine below_drewN ?_ _ | refine Below.setCell ?_ (by first | exact Nat.le_refl _ | exact Below.size (by assumption) | (simp; done) | (simp; omega) | omega) _ | refine Below.alloc ?_ (by first | exact Nat.le_refl _ | exact Below.size (by assumption) | (simp; done) | (simp; omega) | omega) _)) _ (Nat.lt_succ_self _)) (by first | omega | (simp; done) | (simp; omega))))
          (first
            | (go_at_call 244; first | (with_reducible refine (bit_any false 1 _).mono ?_; rintro e w2 ⟨rfl, rfl⟩) | (with_reducible refine (bit_any true 2 _).mono ?_; rintro e w2 ⟨rfl, rfl⟩))
            | (go_at_call 198; refine (inBytes_any 2 1 _ (by omega) (by omega)).mono ?_; rintro e w2 ⟨rfl, hb2⟩; have hbI : Below (wr.heap.size + 1) (wr.alloc (.cells #[.string key, .string old, .string new, .bool false, .bool true] 145)) w2 := Below.trans (by repeat (first | exact Below.refl _ _ | assumption | refine Below.drew ?_ | refine below_drewN ?_ _ | refine Below.setCell ?_ (by first | exact Nat.le_refl _ | exact Below.size (by assumption) | (simp; done) | (simp; omega) | omega) _ | refine Below.alloc ?_ (by first | exact Nat.le_refl _ | exact Below.size (by assumption) | (simp; done) | (simp; omega) | omega) _)) (hb2.mono (by first | omega | (simp; done) | (simp; omega))); have hsI := hbI.size; rw [hsz1] at hsI)
            | (go_at_call 126; refine (fields3_any key old new _ _ (by first | exact rd_alloc _ _ _ _ _ (by simp) rfl | exact Rd.next (by exact rd_alloc _ _ _ _ _ (by simp) rfl) hb2) hk1 hk2 hk3).mono ?_; rintro e w3 ⟨rfl, hb3⟩; have hbF : Below (wr.heap.size + 1) (wr.alloc (.cells #[.string key, .string old, .string new, .bool false, .bool true] 145)) w3 := Below.trans (by repeat (first | exact Below.refl _ _ | assumption | refine Below.drew ?_ | refine below_drewN ?_ _ | refine Below.setCell ?_ (by first | exact Nat.le_refl _ | exact Below.size (by assumption) | (simp; done) | (simp; omega) | omega) _ | refine Below.alloc ?_ (by first | exact Nat.le_refl _ | exact Below.size (by assumption) | (simp; done) | (simp; omega) | omega) _)) (hb3.mono (by first | omega | (simp; done) | (simp; omega))); have hsF := hbF.size; rw [hsz1] at hsF)
            | (go_at_call 197; refine (writeStringU_any w.heap.size w.heap.size wr.heap.size _ (diffF ⟨key, old, new, false, true⟩) _ (HDU.out.below (Below.trans HBW.out (hbF.mono (Nat.le_succ _)))) (by have h1 := HBL.out; have h2 := HDL.out; omega) (by omega)).mono ?_; rintro e w4 ⟨rfl, hd4, hb4, hf4⟩; have hK4 := (hf4 wr.heap.size (Nat.le_refl _) (by omega)).trans (hbF.block _ (Nat.lt_succ_self _)); have hS4 : wr.heap.size + 1 ≤ w4.heap.size := Nat.le_trans hsF hb4.size; have HD4 := Lib.hid hd4; have HB4 : Hid (Below w.heap.size w w4) := (below_after HB.out (Below.trans HBW.out (hbF.mono (Nat.le_succ _)))).trans hb4)
            | fail)
        all_goals
          go_wp2_with fail
          go_roundw
          case rel =>
            refine ⟨k + 1, by omega, by go_num, ?_, HB4.out⟩
            have e : bodyB (ds.take (k + 1)) = bodyB (ds.take k) ++ diffF ⟨key, old, new, false, true⟩ := by
              unfold bodyB
              rw [flatMap_take _ _ _ hlt, ← HDE.out]
            rw [e]
            exact HD4.out
          case measure => simp [intOf]; omega
      · have HAP3 : Hid (bs (nb 1 1) ++ bs (fieldsB [key.toList, old.toList, new.toList]) = bs (diffF ⟨key, old, new, true, false⟩)) := HAP.out
        have hz1 : (bs (nb 1 1)).size = 1 := by simp [ByteArray.size, nb_len]
        have hadd : ∀ w : World, (Op.stringOp .add (bs (nb 1 1)) (bs (fieldsB [key.toList, old.toList, new.toList]))).run Try.prog w = .ok (.string (bs (diffF ⟨key, old, new, true, false⟩))) w := fun w => by
          rw [run_string_add_sum w _ _ (by rw [hz1, hzF]; omega), HAP3.out]
        clear HAP
        go_wp2_with fail
        go_region_held3 (fun w' => w'.cell? ⟨wr.heap.size, 0, none⟩ = some (.string key) ∧ w'.cell? ⟨wr.heap.size, 1, none⟩ = some (.string old) ∧ w'.cell? ⟨wr.heap.size, 2, none⟩ = some (.string new) ∧ w'.cell? ⟨wr.heap.size, 3, none⟩ = some (.bool true) ∧ w'.cell? ⟨wr.heap.size, 4, none⟩ = some (.bool false) ∧ wr.heap.size + 1 ≤ w'.heap.size)
          ((first | exact HW.out _ hK4 hS4 | exact HW.out _ (Below.block (B := wr.heap.size + 1) (by repeat (first | exact Below.refl _ _ | assumption | refine Below.drew ?_ | refine below_drewN ?_ _ | refine Below.setCell ?_ (by first | exact Nat.le_refl _ | exact Below.size (by assumption) | (simp; done) | (simp; omega) | omega) _ | refine Below.alloc ?_ (by first | exact Nat.le_refl _ | exact Below.size (by assumption) | (simp; done) | (simp; omega) | omega) _)) _ (Nat.lt_succ_self _)) (by first | omega | (simp; done) | (simp; omega))))
          (first
            | (go_at_call 244; first | (with_reducible refine (bit_any true 1 _).mono ?_; rintro e w2 ⟨rfl, rfl⟩) | (with_reducible refine (bit_any false 2 _).mono ?_; rintro e w2 ⟨rfl, rfl⟩))
            | (go_at_call 198; refine (inBytes_any 1 1 _ (by omega) (by omega)).mono ?_; rintro e w2 ⟨rfl, hb2⟩; have hbI : Below (wr.heap.size + 1) (wr.alloc (.cells #[.string key, .string old, .string new, .bool true, .bool false] 145)) w2 := Below.trans (by repeat (first | exact Below.refl _ _ | assumption | refine Below.drew ?_ | refine below_drewN ?_ _ | refine Below.setCell ?_ (by first | exact Nat.le_refl _ | exact Below.size (by assumption) | (simp; done) | (simp; omega) | omega) _ | refine Below.alloc ?_ (by first | exact Nat.le_refl _ | exact Below.size (by assumption) | (simp; done) | (simp; omega) | omega) _)) (hb2.mono (by first | omega | (simp; done) | (simp; omega))); have hsI := hbI.size; rw [hsz1] at hsI)
            | (go_at_call 126; refine (fields3_any key old new _ _ (by first | exact rd_alloc _ _ _ _ _ (by simp) rfl | exact Rd.next (by exact rd_alloc _ _ _ _ _ (by simp) rfl) hb2) hk1 hk2 hk3).mono ?_; rintro e w3 ⟨rfl, hb3⟩; have hbF : Below (wr.heap.size + 1) (wr.alloc (.cells #[.string key, .string old, .string new, .bool true, .bool false] 145)) w3 := Below.trans (by repeat (first | exact Below.refl _ _ | assumption | refine Below.drew ?_ | refine below_drewN ?_ _ | refine Below.setCell ?_ (by first | exact Nat.le_refl _ | exact Below.size (by assumption) | (simp; done) | (simp; omega) | omega) _ | refine Below.alloc ?_ (by first | exact Nat.le_refl _ | exact Below.size (by assumption) | (simp; done) | (simp; omega) | omega) _)) (hb3.mono (by first | omega | (simp; done) | (simp; omega))); have hsF := hbF.size; rw [hsz1] at hsF)
            | (go_at_call 197; refine (writeStringU_any w.heap.size w.heap.size wr.heap.size _ (diffF ⟨key, old, new, true, false⟩) _ (HDU.out.below (Below.trans HBW.out (hbF.mono (Nat.le_succ _)))) (by have h1 := HBL.out; have h2 := HDL.out; omega) (by omega)).mono ?_; rintro e w4 ⟨rfl, hd4, hb4, hf4⟩; have hK4 := (hf4 wr.heap.size (Nat.le_refl _) (by omega)).trans (hbF.block _ (Nat.lt_succ_self _)); have hS4 : wr.heap.size + 1 ≤ w4.heap.size := Nat.le_trans hsF hb4.size; have HD4 := Lib.hid hd4; have HB4 : Hid (Below w.heap.size w w4) := (below_after HB.out (Below.trans HBW.out (hbF.mono (Nat.le_succ _)))).trans hb4)
            | fail)
        all_goals
          go_wp2_with fail
          go_roundw
          case rel =>
            refine ⟨k + 1, by omega, by go_num, ?_, HB4.out⟩
            have e : bodyB (ds.take (k + 1)) = bodyB (ds.take k) ++ diffF ⟨key, old, new, true, false⟩ := by
              unfold bodyB
              rw [flatMap_take _ _ _ hlt, ← HDE.out]
            rw [e]
            exact HD4.out
          case measure => simp [intOf]; omega
      · have HAP3 : Hid (bs (nb 3 1) ++ bs (fieldsB [key.toList, old.toList, new.toList]) = bs (diffF ⟨key, old, new, true, true⟩)) := HAP.out
        have hz1 : (bs (nb 3 1)).size = 1 := by simp [ByteArray.size, nb_len]
        have hadd : ∀ w : World, (Op.stringOp .add (bs (nb 3 1)) (bs (fieldsB [key.toList, old.toList, new.toList]))).run Try.prog w = .ok (.string (bs (diffF ⟨key, old, new, true, true⟩))) w := fun w => by
          rw [run_string_add_sum w _ _ (by rw [hz1, hzF]; omega), HAP3.out]
        clear HAP
        go_wp2_with fail
        go_region_held3 (fun w' => w'.cell? ⟨wr.heap.size, 0, none⟩ = some (.string key) ∧ w'.cell? ⟨wr.heap.size, 1, none⟩ = some (.string old) ∧ w'.cell? ⟨wr.heap.size, 2, none⟩ = some (.string new) ∧ w'.cell? ⟨wr.heap.size, 3, none⟩ = some (.bool true) ∧ w'.cell? ⟨wr.heap.size, 4, none⟩ = some (.bool true) ∧ wr.heap.size + 1 ≤ w'.heap.size)
          ((first | exact HW.out _ hK4 hS4 | exact HW.out _ (Below.block (B := wr.heap.size + 1) (by repeat (first | exact Below.refl _ _ | assumption | refine Below.drew ?_ | refine below_drewN ?_ _ | refine Below.setCell ?_ (by first | exact Nat.le_refl _ | exact Below.size (by assumption) | (simp; done) | (simp; omega) | omega) _ | refine Below.alloc ?_ (by first | exact Nat.le_refl _ | exact Below.size (by assumption) | (simp; done) | (simp; omega) | omega) _)) _ (Nat.lt_succ_self _)) (by first | omega | (simp; done) | (simp; omega))))
          (first
            | (go_at_call 244; first | (with_reducible refine (bit_any true 1 _).mono ?_; rintro e w2 ⟨rfl, rfl⟩) | (with_reducible refine (bit_any true 2 _).mono ?_; rintro e w2 ⟨rfl, rfl⟩))
            | (go_at_call 198; refine (inBytes_any 3 1 _ (by omega) (by omega)).mono ?_; rintro e w2 ⟨rfl, hb2⟩; have hbI : Below (wr.heap.size + 1) (wr.alloc (.cells #[.string key, .string old, .string new, .bool true, .bool true] 145)) w2 := Below.trans (by repeat (first | exact Below.refl _ _ | assumption | refine Below.drew ?_ | refine below_drewN ?_ _ | refine Below.setCell ?_ (by first | exact Nat.le_refl _ | exact Below.size (by assumption) | (simp; done) | (simp; omega) | omega) _ | refine Below.alloc ?_ (by first | exact Nat.le_refl _ | exact Below.size (by assumption) | (simp; done) | (simp; omega) | omega) _)) (hb2.mono (by first | omega | (simp; done) | (simp; omega))); have hsI := hbI.size; rw [hsz1] at hsI)
            | (go_at_call 126; refine (fields3_any key old new _ _ (by first | exact rd_alloc _ _ _ _ _ (by simp) rfl | exact Rd.next (by exact rd_alloc _ _ _ _ _ (by simp) rfl) hb2) hk1 hk2 hk3).mono ?_; rintro e w3 ⟨rfl, hb3⟩; have hbF : Below (wr.heap.size + 1) (wr.alloc (.cells #[.string key, .string old, .string new, .bool true, .bool true] 145)) w3 := Below.trans (by repeat (first | exact Below.refl _ _ | assumption | refine Below.drew ?_ | refine below_drewN ?_ _ | refine Below.setCell ?_ (by first | exact Nat.le_refl _ | exact Below.size (by assumption) | (simp; done) | (simp; omega) | omega) _ | refine Below.alloc ?_ (by first | exact Nat.le_refl _ | exact Below.size (by assumption) | (simp; done) | (simp; omega) | omega) _)) (hb3.mono (by first | omega | (simp; done) | (simp; omega))); have hsF := hbF.size; rw [hsz1] at hsF)
            | (go_at_call 197; refine (writeStringU_any w.heap.size w.heap.size wr.heap.size _ (diffF ⟨key, old, new, true, true⟩) _ (HDU.out.below (Below.trans HBW.out (hbF.mono (Nat.le_succ _)))) (by have h1 := HBL.out; have h2 := HDL.out; omega) (by omega)).mono ?_; rintro e w4 ⟨rfl, hd4, hb4, hf4⟩; have hK4 := (hf4 wr.heap.size (Nat.le_refl _) (by omega)).trans (hbF.block _ (Nat.lt_succ_self _)); have hS4 : wr.heap.size + 1 ≤ w4.heap.size := Nat.le_trans hsF hb4.size; have HD4 := Lib.hid hd4; have HB4 : Hid (Below w.heap.size w w4) := (below_after HB.out (Below.trans HBW.out (hbF.mono (Nat.le_succ _)))).trans hb4)
            | fail)
        all_goals
          go_wp2_with fail
          go_roundw
          case rel =>
            refine ⟨k + 1, by omega, by go_num, ?_, HB4.out⟩
            have e : bodyB (ds.take (k + 1)) = bodyB (ds.take k) ++ diffF ⟨key, old, new, true, true⟩ := by
              unfold bodyB
              rw [flatMap_take _ _ _ hlt, ← HDE.out]
            rw [e]
            exact HD4.out
          case measure => simp [intOf]; omega
    · have HB := Lib.hid hb
      clear hb
      go_wp2_with fail
      refine (string_any w.heap.size w.heap.size _ _ HD.out (by omega)).mono ?_
      rintro e w2 ⟨rfl, hb2⟩
      have HB2 := Lib.hid (HB.out.trans hb2)
      clear hb2
      go_wp2_with fail
      go_ret
      exact ⟨by rw [List.take_of_length_le (by omega)]; rfl, HB2.out⟩
end Go.Proofs.Ytlfnpnkpjdmonaa
