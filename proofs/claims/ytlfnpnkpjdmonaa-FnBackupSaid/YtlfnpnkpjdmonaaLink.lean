import Derived.Test.YtlfnpnkpjdmonaaBody
set_option linter.unusedVariables false
set_option linter.unusedSimpArgs false
namespace Go.Proofs.Ytlfnpnkpjdmonaa
open Go.RowKit

/-! ### a backup's link and bytes -/
def namesF (f t : ByteArray) : List UInt8 := fieldsB [f.toList, t.toList]
def linkB1 (f t : ByteArray) (ch : Nat) : List UInt8 := nb ch 4 ++ namesF f t
def linkB2 (f t : ByteArray) (ch : Nat) (ds : List Df) : List UInt8 := linkB1 f t ch ++ bodyB ds
def linkB (f t : ByteArray) (ch : Nat) (ds : List Df) (sm : Nat) : List UInt8 := linkB2 f t ch ds ++ nb sm 4
def linkM (f t : ByteArray) (ch : Nat) (ds : List Df) (sm : Nat) : Nat := crcM (linkB f t ch ds sm)
theorem linkM_lt (f t : ByteArray) (ch : Nat) (ds : List Df) (sm : Nat) : linkM f t ch ds sm < 4294967296 := crcM_lt _
theorem namesF_len (f t : ByteArray) : (namesF f t).length = 5 + f.size + t.size := by
  simp only [namesF, fieldsB, List.length_cons, List.flatMap_cons, List.flatMap_nil, List.length_append, List.length_nil, nb_len, len_of]
  omega
/-- a backup that the program takes, but for the order of its differences -/
structure BkOk (f t : ByteArray) (ch : Nat) (ds : List Df) (sm : Nat) : Prop where
  fl : f.size ≤ 65536
  tl : t.size ≤ 65536
  head : headB f t ch = true
  cl : ch < 4294967296
  sl : sm < 4294967296
  dl : ds.length ≤ 120
  dk : ∀ d ∈ ds, DOk d
theorem inBytes4 (n : Nat) (w : World) (hn : n < 4294967296) : Calls Try.prog 198 #[.int .i64 n, .int .i64 4] w fun e w' => e = .returned (.string (bs (nb n 4))) ∧ Below w.heap.size w w' := inBytes_any n 4 w (by omega) (by omega)
theorem inBytes1 (n : Nat) (w : World) (hn : n < 4294967296) : Calls Try.prog 198 #[.int .i64 n, .int .i64 1] w fun e w' => e = .returned (.string (bs (nb n 1))) ∧ Below w.heap.size w w' := inBytes_any n 1 w (by omega) (by omega)
set_option maxRecDepth 100000 in
set_option maxHeartbeats 4000000 in
theorem link_any (g : Nat) (f t : ByteArray) (ch : Nat) (D : Option Addr) (ds : List Df) (dc : Nat) (sm : Nat) (w : World) (h : BkAt w g f t ch D ds dc sm) (hk : BkOk f t ch ds sm) :
    Calls Try.prog 214 #[.pointer (some ⟨g, 0, none⟩)] w fun e w' => e = .returned (.int .i64 (linkM f t ch ds sm)) ∧ Below w.heap.size w w' := by
  have HK := Lib.hid hk
  have HH := Lib.hid h
  have hgl := h.lt
  have hcl := hk.cl
  have hsl := hk.sl
  have hf1 : f.size ≤ 4194304 := by have := hk.fl; omega
  have ht1 : t.size ≤ 4194304 := by have := hk.tl; omega
  have HW : Hid (∀ w' : World, Below w.heap.size w w' → w'.cell? ⟨g, 0, none⟩ = some (.string f) ∧ w'.cell? ⟨g, 1, none⟩ = some (.string t) ∧ w'.cell? ⟨g, 2, none⟩ = some (.int .i64 ch) ∧ w'.cell? ⟨g, 4, none⟩ = some (.int .i64 sm) ∧ w.heap.size ≤ w'.heap.size) := fun w' hb => ⟨(h.next hb).c0, (h.next hb).c1, (h.next hb).c2, (h.next hb).c4, hb.size⟩
  have z1 : (bs (nb ch 4)).size = 4 := by simp [ByteArray.size, nb_len]
  have z2 : (bs (nb sm 4)).size = 4 := by simp [ByteArray.size, nb_len]
  obtain ⟨n1, z3, hn1⟩ : ∃ n, (bs (namesF f t)).size = n ∧ n ≤ 131100 := by
    refine ⟨_, rfl, ?_⟩
    have := hk.fl
    have := hk.tl
    simp only [ByteArray.size, List.size_toArray, namesF_len]
    simp only [ByteArray.size] at *
    omega
  obtain ⟨n2, z4, hn2⟩ : ∃ n, (bs (bodyB ds)).size = n ∧ n ≤ 26160 := by
    refine ⟨_, rfl, ?_⟩
    have h1 := bodyB_len hk.dk
    have h2 := hk.dl
    simp only [ByteArray.size, List.size_toArray]
    omega
  have a1 := bs_append (nb ch 4) (namesF f t)
  have a2 := bs_append (linkB1 f t ch) (bodyB ds)
  have a3 := bs_append (linkB2 f t ch ds) (nb sm 4)
  have hll : (linkB f t ch ds sm).length ≤ 4611686018427387904 := by
    have h1 := bodyB_len hk.dk
    have h2 := hk.dl
    have := hk.fl
    have := hk.tl
    simp only [linkB, linkB2, linkB1, List.length_append, nb_len, namesF_len]
    omega
  have z5 : (bs (linkB1 f t ch)).size = 4 + n1 := by rw [linkB1, ← a1, ByteArray.size_append, z1, z3]
  have z6 : (bs (linkB2 f t ch ds)).size = 4 + n1 + n2 := by rw [linkB2, ← a2, ByteArray.size_append, z5, z4]
  have d1 : ∀ w : World, (Op.stringOp .add (bs (nb ch 4)) (bs (namesF f t))).run Try.prog w = .ok (.string (bs (linkB1 f t ch))) w := fun w => by
    rw [run_string_add_sum w _ _ (by rw [z1, z3]; omega), a1]; rfl
  have d2 : ∀ w : World, (Op.stringOp .add (bs (linkB1 f t ch)) (bs (bodyB ds))).run Try.prog w = .ok (.string (bs (linkB2 f t ch ds))) w := fun w => by
    rw [run_string_add_sum w _ _ (by rw [z5, z4]; omega), a2]; rfl
  have d3 : ∀ w : World, (Op.stringOp .add (bs (linkB2 f t ch ds)) (bs (nb sm 4))).run Try.prog w = .ok (.string (bs (linkB f t ch ds sm))) w := fun w => by
    rw [run_string_add_sum w _ _ (by rw [z6, z2]; omega), a3]
    rfl
  clear h hk a1 a2 a3 z5 z6
  go_enter Try.func214, Try.ntmps214
  go_wp2_with fail
  go_region_held3 (fun w' => w'.cell? ⟨g, 0, none⟩ = some (.string f) ∧ w'.cell? ⟨g, 1, none⟩ = some (.string t) ∧ w'.cell? ⟨g, 2, none⟩ = some (.int .i64 ch) ∧ w'.cell? ⟨g, 4, none⟩ = some (.int .i64 sm) ∧ w.heap.size ≤ w'.heap.size)
    ((refine HW.out _ ?_; repeat (first | exact Below.refl _ _ | assumption | refine Below.drew ?_ | refine below_drewN ?_ _ | refine Below.setCell ?_ (by first | exact Nat.le_refl _ | exact Below.size (by assumption) | (simp; done) | (simp; omega) | omega) _ | refine Below.alloc ?_ (by first | exact Nat.le_refl _ | exact Below.size (by assumption) | (simp; done) | (simp; omega) | omega) _)))
    (first
      | (go_at_call 198; first | ((with_reducible refine (inBytes4 ch _ hcl).mono ?_); rintro e w2 ⟨rfl, hb2⟩; have hbI : Below w.heap.size w w2 := Below.trans (by repeat (first | exact Below.refl _ _ | assumption | refine Below.drew ?_ | refine below_drewN ?_ _ | refine Below.setCell ?_ (by first | exact Nat.le_refl _ | exact Below.size (by assumption) | (simp; done) | (simp; omega) | omega) _ | refine Below.alloc ?_ (by first | exact Nat.le_refl _ | exact Below.size (by assumption) | (simp; done) | (simp; omega) | omega) _)) (hb2.mono (by first | omega | (simp; done) | (simp; omega))); have hsI := hbI.size) | ((with_reducible refine (inBytes4 sm _ hsl).mono ?_); rintro e w5 ⟨rfl, hb5⟩; have hbS : Below w.heap.size w w5 := below_after hbB hb5))
      | (go_at_call 126; refine (fields2_any f t _ _ (by first | exact rd_alloc _ _ _ _ _ (by simp) rfl | exact Rd.next (by exact rd_alloc _ _ _ _ _ (by simp) rfl) hb2) hf1 ht1).mono ?_; rw [show fieldsB [f.toList, t.toList] = namesF f t from rfl]; rintro e w3 ⟨rfl, hb3⟩; have hbF : Below w.heap.size w w3 := Below.trans (by repeat (first | exact Below.refl _ _ | assumption | refine Below.drew ?_ | refine below_drewN ?_ _ | refine Below.setCell ?_ (by first | exact Nat.le_refl _ | exact Below.size (by assumption) | (simp; done) | (simp; omega) | omega) _ | refine Below.alloc ?_ (by first | exact Nat.le_refl _ | exact Below.size (by assumption) | (simp; done) | (simp; omega) | omega) _)) (hb3.mono (by first | omega | (simp; done) | (simp; omega))); have hsF := hbF.size)
      | (go_at_call 213; refine (body_any g f t ch D ds dc sm _ (HH.out.next hbF) HK.out.dl HK.out.dk).mono ?_; rintro e w4 ⟨rfl, hb4⟩; have hbB : Below w.heap.size w w4 := below_after hbF hb4)
      | (go_at_call 227; refine (sumOf_any (linkB f t ch ds sm) _ hll).mono ?_; rintro e w6 ⟨rfl, hb6⟩; have hbE : Below w.heap.size w w6 := below_after hbS hb6)
      | fail)
  all_goals
    go_wp2_with fail
    go_ret
    exact ⟨rfl, hbE⟩
end Go.Proofs.Ytlfnpnkpjdmonaa
namespace Go.Proofs.Ytlfnpnkpjdmonaa
open Go.RowKit

/-! ### the bytes of a backup -/
def bkMark : List UInt8 := [98, 97, 99, 107, 117, 112]
def bytesB1 (ch : Nat) : List UInt8 := bkMark ++ nb ch 4
def bytesB2 (f t : ByteArray) (ch : Nat) : List UInt8 := bytesB1 ch ++ namesF f t
def bytesB3 (f t : ByteArray) (ch n : Nat) : List UInt8 := bytesB2 f t ch ++ nb n 1
def bytesB4 (f t : ByteArray) (ch : Nat) (ds : List Df) : List UInt8 := bytesB3 f t ch ds.length ++ bodyB ds
def bytesB5 (f t : ByteArray) (ch : Nat) (ds : List Df) (sm : Nat) : List UInt8 := bytesB4 f t ch ds ++ nb sm 4
def bytesB (f t : ByteArray) (ch : Nat) (ds : List Df) (sm : Nat) : List UInt8 := bytesB5 f t ch ds sm ++ nb (linkM f t ch ds sm) 4
theorem add_law {a b c : List UInt8} (h : a ++ b = c) (hl : a.length + b.length ≤ 1000000) : ∀ w : World, (Op.stringOp .add (bs a) (bs b)).run Try.prog w = .ok (.string (bs c)) w := fun w => by
  rw [run_string_add_sum w _ _ (by simp only [ByteArray.size, List.size_toArray]; omega), bs_append, h]
theorem add_law1 {b c : List UInt8} (h : bkMark ++ b = c) (hl : b.length ≤ 1000) : ∀ w : World, (Op.stringOp .add ⟨#[98, 97, 99, 107, 117, 112]⟩ (bs b)).run Try.prog w = .ok (.string (bs c)) w := add_law (a := bkMark) h (by simp only [bkMark, List.length_cons, List.length_nil]; omega)
theorem bytesB_len {f t : ByteArray} {ch : Nat} {ds : List Df} {sm : Nat} (hk : BkOk f t ch ds sm) : (bytesB f t ch ds sm).length ≤ 200000 := by
  have h1 := bodyB_len hk.dk
  have h2 := hk.dl
  have := hk.fl
  have := hk.tl
  simp only [bytesB, bytesB5, bytesB4, bytesB3, bytesB2, bytesB1, bkMark, List.length_append, nb_len, namesF_len, List.length_cons, List.length_nil]
  omega
set_option maxRecDepth 100000 in
set_option maxHeartbeats 4000000 in
theorem bkBytes_any (g : Nat) (f t : ByteArray) (ch : Nat) (D : Option Addr) (ds : List Df) (dc : Nat) (sm : Nat) (w : World) (h : BkAt w g f t ch D ds dc sm) (hk : BkOk f t ch ds sm) :
    Calls Try.prog 146 #[.pointer (some ⟨g, 0, none⟩)] w fun e w' => e = .returned (.string (bs (bytesB f t ch ds sm))) ∧ Below w.heap.size w w' := by
  have HK := Lib.hid hk
  have HH := Lib.hid h
  have hgl := h.lt
  have hcl := hk.cl
  have hsl := hk.sl
  have hdl : ds.length < 4294967296 := by have := hk.dl; omega
  have hkl : linkM f t ch ds sm < 4294967296 := linkM_lt f t ch ds sm
  have hf1 : f.size ≤ 4194304 := by have := hk.fl; omega
  have ht1 : t.size ≤ 4194304 := by have := hk.tl; omega
  have HW : Hid (∀ w' : World, Below w.heap.size w w' → w'.cell? ⟨g, 0, none⟩ = some (.string f) ∧ w'.cell? ⟨g, 1, none⟩ = some (.string t) ∧ w'.cell? ⟨g, 2, none⟩ = some (.int .i64 ch) ∧ w'.cell? ⟨g, 3, none⟩ = some (.slice D ds.length dc) ∧ w'.cell? ⟨g, 4, none⟩ = some (.int .i64 sm) ∧ w.heap.size ≤ w'.heap.size) := fun w' hb => ⟨(h.next hb).c0, (h.next hb).c1, (h.next hb).c2, (h.next hb).c3, (h.next hb).c4, hb.size⟩
  have hal := bytesB_len hk
  have l1 := hk.fl
  have l2 := hk.tl
  have l3 := bodyB_len hk.dk
  have l4 := hk.dl
  have d1 := add_law1 (b := nb ch 4) (c := bytesB1 ch) rfl (by rw [nb_len]; omega)
  have d2 := add_law (a := bytesB1 ch) (b := namesF f t) (c := bytesB2 f t ch) rfl (by simp only [bytesB1, bkMark, List.length_append, nb_len, namesF_len, List.length_cons, List.length_nil]; omega)
  have d3 := add_law (a := bytesB2 f t ch) (b := nb ds.length 1) (c := bytesB3 f t ch ds.length) rfl (by simp only [bytesB2, bytesB1, bkMark, List.length_append, nb_len, namesF_len, List.length_cons, List.length_nil]; omega)
  have d4 := add_law (a := bytesB3 f t ch ds.length) (b := bodyB ds) (c := bytesB4 f t ch ds) rfl (by simp only [bytesB3, bytesB2, bytesB1, bkMark, List.length_append, nb_len, namesF_len, List.length_cons, List.length_nil]; omega)
  have d5 := add_law (a := bytesB4 f t ch ds) (b := nb sm 4) (c := bytesB5 f t ch ds sm) rfl (by simp only [bytesB4, bytesB3, bytesB2, bytesB1, bkMark, List.length_append, nb_len, namesF_len, List.length_cons, List.length_nil]; omega)
  have d6 := add_law (a := bytesB5 f t ch ds sm) (b := nb (linkM f t ch ds sm) 4) (c := bytesB f t ch ds sm) rfl (by simp only [bytesB5, bytesB4, bytesB3, bytesB2, bytesB1, bkMark, List.length_append, nb_len, namesF_len, List.length_cons, List.length_nil]; omega)
  clear h hk l1 l2 l3 l4 hal
  go_enter Try.func146, Try.ntmps146
  go_wp2_with fail
  go_region_held3 (fun w' => w'.cell? ⟨g, 0, none⟩ = some (.string f) ∧ w'.cell? ⟨g, 1, none⟩ = some (.string t) ∧ w'.cell? ⟨g, 2, none⟩ = some (.int .i64 ch) ∧ w'.cell? ⟨g, 3, none⟩ = some (.slice D ds.length dc) ∧ w'.cell? ⟨g, 4, none⟩ = some (.int .i64 sm) ∧ w.heap.size ≤ w'.heap.size)
    ((refine HW.out _ ?_; repeat (first | exact Below.refl _ _ | assumption | refine Below.drew ?_ | refine below_drewN ?_ _ | refine Below.setCell ?_ (by first | exact Nat.le_refl _ | exact Below.size (by assumption) | (simp; done) | (simp; omega) | omega) _ | refine Below.alloc ?_ (by first | exact Nat.le_refl _ | exact Below.size (by assumption) | (simp; done) | (simp; omega) | omega) _)))
    (first
      | (go_at_call 198; first
          | ((with_reducible refine (inBytes4 ch _ hcl).mono ?_); rintro e w2 ⟨rfl, hb2⟩; have hbI : Below w.heap.size w w2 := Below.trans (by repeat (first | exact Below.refl _ _ | assumption | refine Below.drew ?_ | refine below_drewN ?_ _ | refine Below.setCell ?_ (by first | exact Nat.le_refl _ | exact Below.size (by assumption) | (simp; done) | (simp; omega) | omega) _ | refine Below.alloc ?_ (by first | exact Nat.le_refl _ | exact Below.size (by assumption) | (simp; done) | (simp; omega) | omega) _)) (hb2.mono (by first | omega | (simp; done) | (simp; omega))); have hsI := hbI.size)
          | ((with_reducible refine (inBytes1 ds.length _ hdl).mono ?_); rintro e w4 ⟨rfl, hb4⟩; have hbN : Below w.heap.size w w4 := below_after hbF hb4)
          | ((with_reducible refine (inBytes4 sm _ hsl).mono ?_); rintro e w6 ⟨rfl, hb6⟩; have hbS : Below w.heap.size w w6 := below_after hbB hb6)
          | ((with_reducible refine (inBytes4 (linkM f t ch ds sm) _ hkl).mono ?_); rintro e w8 ⟨rfl, hb8⟩; have hbE : Below w.heap.size w w8 := below_after hbL hb8))
      | (go_at_call 126; refine (fields2_any f t _ _ (by first | exact rd_alloc _ _ _ _ _ (by simp) rfl | exact Rd.next (by exact rd_alloc _ _ _ _ _ (by simp) rfl) hb2) hf1 ht1).mono ?_; rw [show fieldsB [f.toList, t.toList] = namesF f t from rfl]; rintro e w3 ⟨rfl, hb3⟩; have hbF : Below w.heap.size w w3 := Below.trans (by repeat (first | exact Below.refl _ _ | assumption | refine Below.drew ?_ | refine below_drewN ?_ _ | refine Below.setCell ?_ (by first | exact Nat.le_refl _ | exact Below.size (by assumption) | (simp; done) | (simp; omega) | omega) _ | refine Below.alloc ?_ (by first | exact Nat.le_refl _ | exact Below.size (by assumption) | (simp; done) | (simp; omega) | omega) _)) (hb3.mono (by first | omega | (simp; done) | (simp; omega))); have hsF := hbF.size)
      | (go_at_call 213; refine (body_any g f t ch D ds dc sm _ (HH.out.next hbN) HK.out.dl HK.out.dk).mono ?_; rintro e w5 ⟨rfl, hb5⟩; have hbB : Below w.heap.size w w5 := below_after hbN hb5)
      | (go_at_call 214; refine (link_any g f t ch D ds dc sm _ (HH.out.next hbS) HK.out).mono ?_; rintro e w7 ⟨rfl, hb7⟩; have hbL : Below w.heap.size w w7 := below_after hbS hb7)
      | fail)
  all_goals
    go_wp2_with fail
    go_ret
    exact ⟨rfl, hbE⟩
end Go.Proofs.Ytlfnpnkpjdmonaa
