/- At any bytes a message is drawn; it is read back from its text, its fields are found, what is not there is not found, and a search finds it by its body. The card ties the two listed tables of the library to the program's text. There are no conditions of ours. -/
import Derived.Test.YtlfnpnkpjdmonaaDoorDCard
import Derived.Test.YtlfnpnkpjdmonaaDoorCards
import Derived.Test.YtlfnpnkpjdmonaaDoorMsgRound
import Derived.ProofKit
import Derived.OpenShut
import Derived.ChangeSlices
import Derived.SliceStrings
import Derived.ShutString
import Derived.ChangeOld
import Derived.Carry
import Derived.SizedLaws
set_option linter.unusedVariables false
set_option linter.unusedSimpArgs false
namespace Go.Proofs.YtlfnpnkpjdmonaaDoor.lawMessage
open Go.ChangeShapes Go.WideShapes Go.ChangeAt Go.RowKit Go.Joins

/-! ### arguments, opened -/
theorem cellsU8 : Tryd.prog.cellsOf 5 = 1 := by kernel_rfl
theorem cellsStr : Tryd.prog.cellsOf 9 = 1 := by kernel_rfl
theorem byte_of_int {z : Int} (h : (Lit.int .u8 z).wf = true) : bv (UInt8.ofNat z.toNat) = .int .u8 z := by
  have := bounds_u8 h
  unfold bv
  congr 1
  have e : (UInt8.ofNat z.toNat).toNat = z.toNat := by simp; omega
  rw [e]
  omega
set_option maxRecDepth 100000 in
theorem open_bytes {H : Type} {enc : TypeId × Value → H} {W : World} {r : Reach} {b0 : Nat} {v : Value} {d : DataW H} {p : List MemPlace} (hv : Value.okWide Tryd.prog W r b0 45 v) (h : DataW.Trod enc Tryd.prog W 0 (fun _ => true) true 45 v d p) :
    ∃ (A : Option Addr) (c : Nat) (xs : List UInt8), v = .slice A xs.length c ∧ Rd W W.heap.size A (xs.map bv) ∧ xs.length ≤ maxLen := by
  obtain ⟨a0, len0, cap0, rfl⟩ := okWide_slice Tryd.underlying45 hv
  obtain ⟨fuel, hf⟩ := h
  rcases open_ints Tryd.underlying45 Tryd.underlying5 cellsU8 hf with ⟨hcs, _⟩ | ⟨a, len, cap, zs, hcs, _, hl, hm, hz, _, hcell, hwz⟩
  · simp only [Value.cells, List.cons.injEq, and_true] at hcs
    exact ⟨none, 0, [], hcs, Rd.nil _ _ _, Nat.zero_le _⟩
  · simp only [Value.cells, List.cons.injEq, and_true] at hcs
    simp only [if_true] at hz
    refine ⟨some a, cap, (zs.take len).map fun z => UInt8.ofNat z.toNat, ?_, fun hne => ?_, ?_⟩
    · rw [List.length_map, List.length_take, show min len zs.length = len from by omega]
      exact hcs
    · have hlen : 0 < len := by
        rcases Nat.eq_zero_or_pos len with h0 | h0
        · subst h0; simp at hne
        · exact h0
      have h0 := hcell 0 (by omega)
      have hb : a.block < W.heap.size := by
        have := block_lt_of_cell h0
        rwa [add_block] at this
      refine ⟨a, rfl, hb, fun j u hu => ?_⟩
      rw [List.map_map, List.getElem?_map] at hu
      rw [Option.map_eq_some_iff] at hu
      obtain ⟨z, hz1, rfl⟩ := hu
      have hj : j < zs.length := by
        have h1 := (List.getElem?_eq_some_iff.1 hz1).1
        rw [List.length_take] at h1
        omega
      rw [List.getElem?_take] at hz1
      split at hz1
      · have e : zs.getD j 0 = z := by simp [List.getD, hz1]
        rw [hcell j hj, e]
        show _ = some (bv (UInt8.ofNat z.toNat))
        rw [byte_of_int (hwz z (List.mem_of_getElem? hz1))]
      · cases hz1
    · rw [List.length_map, List.length_take]; omega
theorem fdGuard : Tryd.prog.eqGuardType Tryd.prog.depth 49 = false := by kernel_rfl
theorem fdHeld : Tryd.prog.stoodInHeld 49 = false := by kernel_rfl
theorem fdEqGuard (op : BinOp) (x y : Operand) (p q : Pr) (w : World) : (eqGuard op 49 x y (prV p) (prV q)).run Tryd.prog w = .ok () w := run_eqGuard_agg w op _ x y _ _ fdGuard
theorem fdFields : Tryd.prog.underlying 49 = some (.struct (Tryd.prog.fieldsOf 49)) := by kernel_rfl
theorem fdNeq (p : Pr) (w : World) : (binOp .neq 49 (prV p) (prV p)).run Tryd.prog w = .ok (.bool false) w := by
  rw [run_neq_struct, run_equalIn_struct _ _ _ _ _ fdFields fdHeld]
  simp [go_sem, Tryd.underlying49, Tryd.underlying9]
theorem box2 {w : World} {g : Nat} {a0 a1 : Value} {T : TypeId} (h : w.heap[g]? = some (.cells #[a0, a1] T (0, 0))) : w.cell? ⟨g, 0, none⟩ = some a0 ∧ w.cell? ⟨g, 1, none⟩ = some a1 :=
  ⟨by rw [cell_of_row w _ 0 _ _ _ h]; rfl, by rw [cell_of_row w _ 1 _ _ _ h]; rfl⟩
theorem rdMail {w : World} {g : Nat} {tx : List UInt8} (h : w.heap[g]? = some (.cells #[.int .i64 7, .int .i64 0, .string (bs tx)] 51 (0, 0))) : Rd w w.heap.size (some ⟨g, 0, none⟩) (flat encM [⟨7, 0, bs tx⟩]) := fun _ => by
  refine ⟨_, rfl, (Array.getElem?_eq_some_iff.1 h).1, fun j u hj => ?_⟩
  rw [addr_lit, Nat.zero_add, cell_of_row _ _ j _ _ _ h]
  have hj2 : ([.int .i64 7, .int .i64 0, .string (bs tx)] : List Value)[j]? = some u := hj
  simpa using hj2
theorem rdInts {w : World} {g : Nat} (h : w.heap[g]? = some (.cells #[.int .i64 7] 3 (0, 0))) : Rd w w.heap.size (some ⟨g, 0, none⟩) (([7] : List Int).map iv) := fun _ => by
  refine ⟨_, rfl, (Array.getElem?_eq_some_iff.1 h).1, fun j u hj => ?_⟩
  rw [addr_lit, Nat.zero_add, cell_of_row _ _ j _ _ _ h]
  have hj2 : ([.int .i64 7] : List Value)[j]? = some u := hj
  simpa using hj2
/-- all that the law wants of the text -/
structure Txt (fs : List Pr) (b tx : List UInt8) : Prop where
  len : tx.length ≤ 48
  pm : pmM tx = ((fs, bs b), 0)
  ok : mokB tx = true
  fo : ∀ p ∈ fs, ∃ v, foM tx p.1.data.toList = (v, 0)
  no : foM tx [78, 111, 119, 104, 101, 114, 101] = (⟨#[]⟩, 5)
  body : smM [⟨7, 0, bs tx⟩] [] b = ([7], 0)
  word : ∃ ns, smM [⟨7, 0, bs tx⟩] [115, 117, 98, 106, 101, 99, 116] [111, 110, 101] = (ns, 0) ∧ ns.length ≤ 1
theorem txt_made {fs : List Pr} {b : List UInt8} (h : DrawnM fs b) : Txt fs b (txtM fs b) := by
  refine ⟨txtM_len h, pmM_made h, mok_made h, fun p hp => ?_, fo_nowhere h, one_body h, one_word h _ _ (by simp) (by simp)⟩
  obtain ⟨v, hv, _⟩ := fo_made h hp
  exact ⟨v, hv⟩
def MadeP (w : World) (e : Ending) (w' : World) : Prop := ∃ (A : Option Addr) (c : Nat) (fs : List Pr) (b tx : List UInt8), e = .returned (msgV A fs.length c (bs b)) ∧ fs.length ≤ 2 ∧ b.length ≤ 9 ∧ (∀ p ∈ fs, p.1.size ≤ 7) ∧ DrawnM fs b ∧ tx = txtM fs b ∧ w'.ownsRow w.heap.size 49 2 (.slice A fs.length c) fs.length (flat encP fs) ∧ Below w.heap.size w w'
theorem made (A : Option Addr) (c : Nat) (xs : List UInt8) (w : World) (hx : Rd w w.heap.size A (xs.map bv)) (hl : xs.length ≤ 1048576) : Calls Tryd.prog 27 #[.slice A xs.length c] w (MadeP w) := by
  refine (messageOf_any A c xs w hx hl).mono fun e w' h => ?_
  obtain ⟨B, d, fs, b, h1, h2, h3, h4⟩ := h
  exact ⟨B, d, fs, b, _, h1, h2.1, body_ok h2.2.2, fun p hp => (drawnF_ok (h2.2.1 p hp)).2.2.1, h2, rfl, h3, h4⟩
theorem implT {A : Option Addr} {c b1 : Nat} {fs : List Pr} {b tx : List UInt8} {w : World} (ho : w.ownsRow b1 49 2 (.slice A fs.length c) fs.length (flat encP fs)) (hd : DrawnM fs b) (ht : tx = txtM fs b) :
    Calls Tryd.prog 28 #[msgV A fs.length c (bs b)] w fun e w' => e = .returned (.tuple #[.string (bs tx), .int .i64 0]) ∧ Below w.heap.size w w' := by subst ht; exact implText_any A c fs b w (Rd.own ho) hd
theorem specT {A : Option Addr} {c b1 : Nat} {fs : List Pr} {b tx : List UInt8} {w : World} (ho : w.ownsRow b1 49 2 (.slice A fs.length c) fs.length (flat encP fs)) (hd : DrawnM fs b) (ht : tx = txtM fs b) :
    Calls Tryd.prog 29 #[msgV A fs.length c (bs b)] w fun e w' => e = .returned (.tuple #[.string (bs tx), .int .i64 0]) ∧ Below w.heap.size w w' := by subst ht; exact specText_any A c fs b w (Rd.own ho) hd
theorem implP {fs : List Pr} {b tx : List UInt8} {w w' : World} (h : Txt fs b tx) (hm : ML w) (hb : Below w.heap.size w w') :
    Calls Tryd.prog 14 #[.string (bs tx)] w' fun e w2 => ∃ A c, e = .returned (.tuple #[msgV A fs.length c (bs b), .int .i64 0]) ∧ w2.ownsRow w'.heap.size 49 2 (.slice A fs.length c) fs.length (flat encP fs) ∧ Below w'.heap.size w' w2 := by
  have hc := implParseMessage_any tx w' (hm.below hb) (by have := h.len; omega)
  rw [h.pm] at hc
  exact hc
theorem okC {fs : List Pr} {b tx : List UInt8} {w w' : World} (h : Txt fs b tx) (hm : ML w) (hb : Below w.heap.size w w') :
    Calls Tryd.prog 10 #[.string (bs tx)] w' fun e w2 => e = .returned (.bool true) ∧ Below w'.heap.size w' w2 := by
  have hc := implMessageOK_any tx w' (hm.below hb) (by have := h.len; omega)
  rw [h.ok] at hc
  exact hc
theorem implF {fs : List Pr} {b tx : List UInt8} {w w' : World} (h : Txt fs b tx) (hm : ML w) (hb : Below w.heap.size w w') {p : ByteArray} {v : ByteArray} (hv : foM tx p.data.toList = (v, 0)) (hz : p.size ≤ 7) :
    Calls Tryd.prog 12 #[.string (bs tx), .string p] w' fun e w2 => e = .returned (.tuple #[.string v, .int .i64 0]) ∧ Below w'.heap.size w' w2 := by
  have hc := implFieldOf_any tx p.data.toList w' (hm.below hb) (by have := h.len; omega) (by have e : p.data.toList.length = p.size := rfl; omega)
  rw [hv, ← bs_eta' p] at hc
  exact hc
theorem specF {fs : List Pr} {b tx : List UInt8} {w' : World} (h : Txt fs b tx) {p : ByteArray} {v : ByteArray} (hv : foM tx p.data.toList = (v, 0)) (hz : p.size ≤ 7) :
    Calls Tryd.prog 11 #[.string (bs tx), .string p] w' fun e w2 => e = .returned (.tuple #[.string v, .int .i64 0]) ∧ Below w'.heap.size w' w2 := by
  have hc := specFieldOf_any tx p.data.toList w' (by have := h.len; omega) (by have e : p.data.toList.length = p.size := rfl; omega)
  rw [hv, ← bs_eta' p] at hc
  exact hc
theorem noF {fs : List Pr} {b tx : List UInt8} {w w' : World} (h : Txt fs b tx) (hm : ML w) (hb : Below w.heap.size w w') :
    Calls Tryd.prog 12 #[.string (bs tx), .string ⟨#[78, 111, 119, 104, 101, 114, 101]⟩] w' fun e w2 => e = .returned (.tuple #[.string ⟨#[]⟩, .int .i64 5]) ∧ Below w'.heap.size w' w2 := by
  have hc := implFieldOf_any tx [78, 111, 119, 104, 101, 114, 101] w' (hm.below hb) (by have := h.len; omega) (by simp)
  rw [h.no] at hc
  exact hc
def Ints (ns : List Int) (w : World) (e : Ending) (w' : World) : Prop := ∃ A c, e = .returned (.tuple #[.slice A ns.length c, .int .i64 0]) ∧ w'.ownsRow w.heap.size 3 1 (.slice A ns.length c) ns.length (ns.map iv) ∧ Below w.heap.size w w'
theorem ints_of {q : List Int × Int} {ns : List Int} (hq : q = (ns, 0)) {w w' : World} {e : Ending} (h : SM q w e w') : Ints ns w e w' := by
  subst hq
  obtain ⟨v, e1, e2, e3⟩ := h
  obtain ⟨A, c, rfl, _⟩ := own_form e2
  exact ⟨A, c, e1, e2, e3⟩
theorem bodyS {fs : List Pr} {b tx : List UInt8} {w w' : World} {g : Nat} (h : Txt fs b tx) (hm : ML w) (hb : Below w.heap.size w w') (hl : b.length ≤ 9) (hg : w'.heap[g]? = some (.cells #[.int .i64 7, .int .i64 0, .string (bs tx)] 51 (0, 0))) :
    Calls Tryd.prog 21 #[.slice (some ⟨g, 0, none⟩) 1 1, .string ⟨#[]⟩, .string (bs b)] w' (Ints [7] w') :=
  (implSearchMails_any (some ⟨g, 0, none⟩) 1 [⟨7, 0, bs tx⟩] [] b w' (rdMail hg) (hm.below hb) (by simp) (by simp; rw [bs_size]; have := h.len; omega) (by simp) (by omega)).mono fun _ _ hh => ints_of h.body hh
theorem wordI {fs : List Pr} {b tx : List UInt8} {w w' : World} {g : Nat} {ns : List Int} (h : Txt fs b tx) (hn : smM [⟨7, 0, bs tx⟩] [115, 117, 98, 106, 101, 99, 116] [111, 110, 101] = (ns, 0)) (hm : ML w) (hb : Below w.heap.size w w') (hg : w'.heap[g]? = some (.cells #[.int .i64 7, .int .i64 0, .string (bs tx)] 51 (0, 0))) :
    Calls Tryd.prog 21 #[.slice (some ⟨g, 0, none⟩) 1 1, .string ⟨#[115, 117, 98, 106, 101, 99, 116]⟩, .string ⟨#[111, 110, 101]⟩] w' (Ints ns w') :=
  (implSearchMails_any (some ⟨g, 0, none⟩) 1 [⟨7, 0, bs tx⟩] [115, 117, 98, 106, 101, 99, 116] [111, 110, 101] w' (rdMail hg) (hm.below hb) (by simp) (by simp; rw [bs_size]; have := h.len; omega) (by simp) (by simp)).mono fun _ _ hh => ints_of hn hh
theorem wordS {fs : List Pr} {b tx : List UInt8} {w' : World} {g : Nat} {ns : List Int} (h : Txt fs b tx) (hn : smM [⟨7, 0, bs tx⟩] [115, 117, 98, 106, 101, 99, 116] [111, 110, 101] = (ns, 0)) (hg : w'.heap[g]? = some (.cells #[.int .i64 7, .int .i64 0, .string (bs tx)] 51 (0, 0))) :
    Calls Tryd.prog 19 #[.slice (some ⟨g, 0, none⟩) 1 1, .string ⟨#[115, 117, 98, 106, 101, 99, 116]⟩, .string ⟨#[111, 110, 101]⟩] w' (Ints ns w') :=
  (specSearchMails_any (some ⟨g, 0, none⟩) 1 [⟨7, 0, bs tx⟩] [115, 117, 98, 106, 101, 99, 116] [111, 110, 101] w' (rdMail hg) (by simp) (by simp; rw [bs_size]; have := h.len; omega) (by simp) (by simp)).mono fun _ _ hh => ints_of hn hh
theorem same7 {b1 c g : Nat} {A : Option Addr} {w : World} (ho : w.ownsRow b1 3 1 (.slice A 1 c) 1 (([7] : List Int).map iv)) (hg : w.heap[g]? = some (.cells #[.int .i64 7] 3 (0, 0))) :
    Calls Tryd.prog 30 #[.slice A 1 c, .slice (some ⟨g, 0, none⟩) 1 1] w fun e w' => e = .returned (.bool true) ∧ Below w.heap.size w w' := sameInts_eq A (some ⟨g, 0, none⟩) c 1 [7] w (Rd.own ho) (rdInts hg) (by simp)
theorem sameN {ns : List Int} {b1 b2 c d : Nat} {A B : Option Addr} {w : World} (hx : w.ownsRow b1 3 1 (.slice A ns.length c) ns.length (ns.map iv)) (hy : w.ownsRow b2 3 1 (.slice B ns.length d) ns.length (ns.map iv)) (hl : ns.length ≤ 1) :
    Calls Tryd.prog 30 #[.slice A ns.length c, .slice B ns.length d] w fun e w' => e = .returned (.bool true) ∧ Below w.heap.size w w' := sameInts_eq A B c d ns w (Rd.own hx) (Rd.own hy) (by omega)
set_option maxRecDepth 100000 in
set_option maxHeartbeats 4000000 in
theorem law_any (A B : Option Addr) (c d : Nat) (xs ys : List UInt8) (w : World) (hx : Rd w w.heap.size A (xs.map bv)) (hml : ML w) (hm : xs.length ≤ maxLen) (hm' : ys.length ≤ maxLen) :
    Calls Tryd.prog 7 #[.slice A xs.length c, .slice B ys.length d] w fun e w' => e = .returned (.bool true) ∧ Below w.heap.size w w' := by
  unfold maxLen at hm hm'
  by_cases h1 : 1048576 < xs.length
  · go_enter Tryd.func7, Tryd.ntmps7
    go_wp2
    go_ret
    exact ⟨rfl, Below.refl _ _⟩
  by_cases h2 : 1048576 < ys.length
  · go_enter Tryd.func7, Tryd.ntmps7
    go_wp2
    go_ret
    exact ⟨rfl, Below.refl _ _⟩
  have HA := Lib.hid hx
  have HM := Lib.hid hml
  have HXL : Hid (xs.length ≤ 1048576) := by show _ ≤ _; omega
  clear hx hml
  go_enter Tryd.func7, Tryd.ntmps7
  go_wp2_with fail
  refine (made A c xs _ HA.out HXL.out).mono ?_
  rintro e w1 ⟨D1, dc1, fs, b, tx, rfl, hl, hbl, hps, hd, ht, ho1, hb1⟩
  have hZ1 : Below w.heap.size w w1 := below_after (Below.refl _ _) hb1
  have hs1 : w.heap.size ≤ w1.heap.size := hb1.size
  have HZ1 := Lib.hid hZ1
  have HB1 := Lib.hid hb1
  clear hZ1 hb1
  have HOS := Lib.hid ho1
  have HIS : Hid (∀ k, (Value.slice D1 fs.length dc1).ownBlock = some k → w.heap.size ≤ k ∧ k < w1.heap.size) := fun k hk => HOS.out.lt k hk
  clear ho1
  have HD := Lib.hid hd
  have HT := Lib.hid ht
  have HX : Hid (Txt fs b tx) := by show Txt fs b tx; rw [ht]; exact txt_made hd
  have HPS := Lib.hid hps
  have htl := HX.out.len
  have hst := bs_size tx
  have hsb := bs_size b
  clear hd ht hps
  obtain ⟨w2, hw2⟩ : ∃ W : World, W = w1.alloc (.cells #[.slice D1 fs.length dc1, .string (bs b)] 28) := ⟨_, rfl⟩
  have hb2 : Below w1.heap.size w1 w2 := by rw [hw2]; exact (Below.refl _ _).alloc (Nat.le_refl _) _
  have hx2 : w2.heap[w1.heap.size]? = some (.cells #[.slice D1 fs.length dc1, .string (bs b)] 28 (0, 0)) := by rw [hw2]; exact heap_alloc_new _ _
  have hZ2 : Below w.heap.size w w2 := below_after HZ1.out hb2
  have hs2 : w1.heap.size < w2.heap.size := by rw [hw2]; simp
  have HZ2 := Lib.hid hZ2
  have HB2 := Lib.hid hb2
  have HW2 := Lib.hid hw2
  have HXP := Lib.hid hx2
  clear hZ2 hb2 hw2 hx2
  obtain ⟨cP0, cP1⟩ := box2 HXP.out
  rw [HW2.out] at cP0 cP1
  go_wp2_with fail
  rw [← HW2.out]
  clear cP0 cP1
  refine (implT (own_below HOS.out HB2.out) HD.out HT.out).mono ?_
  rintro e w3 ⟨rfl, hb3⟩
  have hZ3 : Below w.heap.size w w3 := below_after HZ2.out hb3
  have hs3 : w2.heap.size ≤ w3.heap.size := hb3.size
  have HZ3 := Lib.hid hZ3
  have HB3 := Lib.hid hb3
  clear hZ3 hb3
  obtain ⟨cP0, cP1⟩ := box2 ((HB3.out.block _ (by omega)).trans HXP.out)
  go_wp2_with fail
  clear cP0 cP1
  refine (specT (own_below (own_below HOS.out HB2.out) HB3.out) HD.out HT.out).mono ?_
  rintro e w4 ⟨rfl, hb4⟩
  have hZ4 : Below w.heap.size w w4 := below_after HZ3.out hb4
  have hs4 : w3.heap.size ≤ w4.heap.size := hb4.size
  have HZ4 := Lib.hid hZ4
  have HB4 := Lib.hid hb4
  clear hZ4 hb4
  go_wp2_with fail
  refine (implP HX.out HM.out HZ4.out).mono ?_
  rintro e w5 ⟨D5, dc5, rfl, ho5, hb5⟩
  have hZ5 : Below w.heap.size w w5 := below_after HZ4.out hb5
  have hs5 : w4.heap.size ≤ w5.heap.size := hb5.size
  have HZ5 := Lib.hid hZ5
  have HB5 := Lib.hid hb5
  clear hZ5 hb5
  have HOG := Lib.hid ho5
  have HIG : Hid (∀ k, (Value.slice D5 fs.length dc5).ownBlock = some k → w4.heap.size ≤ k ∧ k < w5.heap.size) := fun k hk => HOG.out.lt k hk
  clear ho5
  obtain ⟨w6, hw6⟩ : ∃ W : World, W = w5.alloc (.cells #[.slice D5 fs.length dc5, .string (bs b)] 28) := ⟨_, rfl⟩
  have hb6 : Below w5.heap.size w5 w6 := by rw [hw6]; exact (Below.refl _ _).alloc (Nat.le_refl _) _
  have hx6 : w6.heap[w5.heap.size]? = some (.cells #[.slice D5 fs.length dc5, .string (bs b)] 28 (0, 0)) := by rw [hw6]; exact heap_alloc_new _ _
  have hZ6 : Below w.heap.size w w6 := below_after HZ5.out hb6
  have hs6 : w5.heap.size < w6.heap.size := by rw [hw6]; simp
  have HZ6 := Lib.hid hZ6
  have HB6 := Lib.hid hb6
  have HW6 := Lib.hid hw6
  have HXQ := Lib.hid hx6
  clear hZ6 hb6 hw6 hx6
  obtain ⟨cP0, cP1⟩ := box2 ((HB6.out.block _ (by omega)).trans ((HB5.out.block _ (by omega)).trans ((HB4.out.block _ (by omega)).trans ((HB3.out.block _ (by omega)).trans HXP.out))))
  rw [HW6.out] at cP0 cP1
  obtain ⟨cQ0, cQ1⟩ := box2 HXQ.out
  rw [HW6.out] at cQ0 cQ1
  go_wp2_with fail
  rw [← HW6.out]
  clear cP0 cP1 cQ0 cQ1
  refine (okC HX.out HM.out HZ6.out).mono ?_
  rintro e w7 ⟨rfl, hb7⟩
  have hZ7 : Below w.heap.size w w7 := below_after HZ6.out hb7
  have hs7 : w6.heap.size ≤ w7.heap.size := hb7.size
  have HZ7 := Lib.hid hZ7
  have HB7 := Lib.hid hb7
  clear hZ7 hb7
  go_wp2_with fail
  go_loopw [12] (fun i wr => ∃ k : Nat, k ≤ fs.length ∧ i = .int .i64 k ∧ Below w7.heap.size w7 wr) (fun i _ => fs.length - (intOf i).toNat)
  case atStart => exact ⟨0, Nat.zero_le _, rfl, Below.refl _ _⟩
  case round =>
    obtain ⟨k, hk, rfl, hbr⟩ := hrel
    have HBR := Lib.hid hbr
    obtain ⟨cP0, cP1⟩ := box2 ((hbr.block _ (by omega)).trans ((HB7.out.block _ (by omega)).trans ((HB6.out.block _ (by omega)).trans ((HB5.out.block _ (by omega)).trans ((HB4.out.block _ (by omega)).trans ((HB3.out.block _ (by omega)).trans HXP.out))))))
    obtain ⟨cQ0, cQ1⟩ := box2 ((hbr.block _ (by omega)).trans ((HB7.out.block _ (by omega)).trans HXQ.out))
    by_cases hlt : k < fs.length
    · obtain ⟨ad, had, hla, hp1, hp2⟩ := (Rd.own (own_below (own_below (own_below (own_below (own_below (own_below (own_below HOS.out HB2.out) HB3.out) HB4.out) HB5.out) HB6.out) HB7.out) hbr)).pr hlt
      obtain ⟨bd, hbd, hlb, hq1, hq2⟩ := (Rd.own (own_below (own_below (own_below HOG.out HB6.out) HB7.out) hbr)).pr hlt
      subst had hbd
      obtain ⟨fv, hfo⟩ := HX.out.fo _ (List.getElem_mem hlt)
      have hz := HPS.out _ (List.getElem_mem hlt)
      obtain ⟨p, hp⟩ : ∃ p, p = fs[k] := ⟨_, rfl⟩
      rw [← hp] at hp1 hp2 hq1 hq2 hfo hz
      have HFO := Lib.hid (And.intro hfo hz)
      have HPE := Lib.hid hp
      have hg : ∀ (op : BinOp) (x y : Operand) (w : World), (eqGuard op 49 x y (.agg #[.string p.1, .string p.2]) (.agg #[.string p.1, .string p.2])).run Tryd.prog w = .ok () w := fun op x y w => fdEqGuard op x y p p w
      have hq : ∀ w : World, (binOp .neq 49 (.agg #[.string p.1, .string p.2]) (.agg #[.string p.1, .string p.2])).run Tryd.prog w = .ok (.bool false) w := fun w => fdNeq p w
      have HC := Lib.hid (And.intro hla (And.intro cP0 hp1))
      clear hp hfo hz hbr
      go_wp2_with fail
      go_quiet (fail)
      go_wp2_with fail
      refine (implF HX.out HM.out (below_drewN (below_after HZ7.out HBR.out) _) HFO.out.1 HFO.out.2).mono ?_
      rintro e v1 ⟨rfl, hv1⟩
      have HV1 := Lib.hid (below_after (below_drewN HBR.out _) hv1)
      have hs5 := HV1.out.size
      clear hv1 cP0 cP1 cQ0 cQ1 hp1 hp2 hq1 hq2
      obtain ⟨cP0, cP1⟩ := box2 ((HV1.out.block _ (by omega)).trans ((HB7.out.block _ (by omega)).trans ((HB6.out.block _ (by omega)).trans ((HB5.out.block _ (by omega)).trans ((HB4.out.block _ (by omega)).trans ((HB3.out.block _ (by omega)).trans HXP.out))))))
      obtain ⟨ad', had, hla', hp1, hp2⟩ := (Rd.own (own_below (own_below (own_below (own_below (own_below (own_below (own_below HOS.out HB2.out) HB3.out) HB4.out) HB5.out) HB6.out) HB7.out) HV1.out)).pr hlt
      cases had
      rw [← HPE.out] at hp1 hp2
      go_wp2_with fail
      refine (specF HX.out HFO.out.1 HFO.out.2).mono ?_
      rintro e v2 ⟨rfl, hv2⟩
      have HV2 := Lib.hid (below_after HV1.out hv2)
      clear hv2
      go_wp2_with fail
      go_roundw
      case rel => exact ⟨k + 1, hlt, by go_num, HV2.out⟩
      case measure => simp [intOf]; omega
    · have hz8 : Below w.heap.size w wr := below_after HZ7.out hbr
      have hs8 : w7.heap.size ≤ wr.heap.size := hbr.size
      have HZ8 := Lib.hid hz8
      have HB8 := Lib.hid hbr
      clear hz8 hbr cP0 cP1 cQ0 cQ1
      obtain ⟨ns, hns, hnl⟩ := HX.out.word
      have HNS := Lib.hid (And.intro hns hnl)
      clear hns hnl
      obtain ⟨w8, hw8⟩ : ∃ W : World, W = wr := ⟨_, rfl⟩
      subst hw8
      obtain ⟨cP0, cP1⟩ := box2 ((HB8.out.block _ (by omega)).trans ((HB7.out.block _ (by omega)).trans ((HB6.out.block _ (by omega)).trans ((HB5.out.block _ (by omega)).trans ((HB4.out.block _ (by omega)).trans ((HB3.out.block _ (by omega)).trans HXP.out))))))
      go_wp2_with fail
      clear cP0 cP1
      refine (noF HX.out HM.out HZ8.out).mono ?_
      rintro e w9 ⟨rfl, hb9⟩
      have hZ9 : Below w.heap.size w w9 := below_after HZ8.out hb9
      have hs9 : w8.heap.size ≤ w9.heap.size := hb9.size
      have HZ9 := Lib.hid hZ9
      have HB9 := Lib.hid hb9
      clear hZ9 hb9
      obtain ⟨w10, hw10⟩ : ∃ W : World, W = w9.alloc (.cells #[.int .i64 7, .int .i64 0, .string (bs tx)] 51) := ⟨_, rfl⟩
      have hb10 : Below w9.heap.size w9 w10 := by rw [hw10]; exact (Below.refl _ _).alloc (Nat.le_refl _) _
      have hx10 : w10.heap[w9.heap.size]? = some (.cells #[.int .i64 7, .int .i64 0, .string (bs tx)] 51 (0, 0)) := by rw [hw10]; exact heap_alloc_new _ _
      have hZ10 : Below w.heap.size w w10 := below_after HZ9.out hb10
      have hs10 : w9.heap.size < w10.heap.size := by rw [hw10]; simp
      have HZ10 := Lib.hid hZ10
      have HB10 := Lib.hid hb10
      have HW10 := Lib.hid hw10
      have HXM1 := Lib.hid hx10
      clear hZ10 hb10 hw10 hx10
      obtain ⟨cP0, cP1⟩ := box2 ((HB10.out.block _ (by omega)).trans ((HB9.out.block _ (by omega)).trans ((HB8.out.block _ (by omega)).trans ((HB7.out.block _ (by omega)).trans ((HB6.out.block _ (by omega)).trans ((HB5.out.block _ (by omega)).trans ((HB4.out.block _ (by omega)).trans ((HB3.out.block _ (by omega)).trans HXP.out))))))))
      rw [HW10.out] at cP0 cP1
      go_wp2_with fail
      rw [← HW10.out]
      clear cP0 cP1
      refine (bodyS HX.out HM.out HZ10.out hbl HXM1.out).mono ?_
      rintro e w11 ⟨I11, ic11, rfl, ho11, hb11⟩
      have hZ11 : Below w.heap.size w w11 := below_after HZ10.out hb11
      have hs11 : w10.heap.size ≤ w11.heap.size := hb11.size
      have HZ11 := Lib.hid hZ11
      have HB11 := Lib.hid hb11
      clear hZ11 hb11
      have HOI1 := Lib.hid ho11
      have HII1 : Hid (∀ k, (Value.slice I11 1 ic11).ownBlock = some k → w10.heap.size ≤ k ∧ k < w11.heap.size) := fun k hk => HOI1.out.lt k hk
      clear ho11
      obtain ⟨w12, hw12⟩ : ∃ W : World, W = w11.alloc (.cells #[.int .i64 7, .int .i64 0, .string (bs tx)] 51) := ⟨_, rfl⟩
      have hb12 : Below w11.heap.size w11 w12 := by rw [hw12]; exact (Below.refl _ _).alloc (Nat.le_refl _) _
      have hx12 : w12.heap[w11.heap.size]? = some (.cells #[.int .i64 7, .int .i64 0, .string (bs tx)] 51 (0, 0)) := by rw [hw12]; exact heap_alloc_new _ _
      have hZ12 : Below w.heap.size w w12 := below_after HZ11.out hb12
      have hs12 : w11.heap.size < w12.heap.size := by rw [hw12]; simp
      have HZ12 := Lib.hid hZ12
      have HB12 := Lib.hid hb12
      have HW12 := Lib.hid hw12
      have HXM2 := Lib.hid hx12
      clear hZ12 hb12 hw12 hx12
      go_wp2_with fail
      rw [← HW12.out]
      refine (wordS HX.out HNS.out.1 HXM2.out).mono ?_
      rintro e w13 ⟨I13, ic13, rfl, ho13, hb13⟩
      have hZ13 : Below w.heap.size w w13 := below_after HZ12.out hb13
      have hs13 : w12.heap.size ≤ w13.heap.size := hb13.size
      have HZ13 := Lib.hid hZ13
      have HB13 := Lib.hid hb13
      clear hZ13 hb13
      have HOI2 := Lib.hid ho13
      have HII2 : Hid (∀ k, (Value.slice I13 ns.length ic13).ownBlock = some k → w12.heap.size ≤ k ∧ k < w13.heap.size) := fun k hk => HOI2.out.lt k hk
      clear ho13
      obtain ⟨w14, hw14⟩ : ∃ W : World, W = w13.alloc (.cells #[.int .i64 7, .int .i64 0, .string (bs tx)] 51) := ⟨_, rfl⟩
      have hb14 : Below w13.heap.size w13 w14 := by rw [hw14]; exact (Below.refl _ _).alloc (Nat.le_refl _) _
      have hx14 : w14.heap[w13.heap.size]? = some (.cells #[.int .i64 7, .int .i64 0, .string (bs tx)] 51 (0, 0)) := by rw [hw14]; exact heap_alloc_new _ _
      have hZ14 : Below w.heap.size w w14 := below_after HZ13.out hb14
      have hs14 : w13.heap.size < w14.heap.size := by rw [hw14]; simp
      have HZ14 := Lib.hid hZ14
      have HB14 := Lib.hid hb14
      have HW14 := Lib.hid hw14
      have HXM3 := Lib.hid hx14
      clear hZ14 hb14 hw14 hx14
      go_wp2_with fail
      rw [← HW14.out]
      refine (wordI HX.out HNS.out.1 HM.out HZ14.out HXM3.out).mono ?_
      rintro e w15 ⟨I15, ic15, rfl, ho15, hb15⟩
      have hZ15 : Below w.heap.size w w15 := below_after HZ14.out hb15
      have hs15 : w14.heap.size ≤ w15.heap.size := hb15.size
      have HZ15 := Lib.hid hZ15
      have HB15 := Lib.hid hb15
      clear hZ15 hb15
      have HOI3 := Lib.hid ho15
      have HII3 : Hid (∀ k, (Value.slice I15 ns.length ic15).ownBlock = some k → w14.heap.size ≤ k ∧ k < w15.heap.size) := fun k hk => HOI3.out.lt k hk
      clear ho15
      obtain ⟨w16, hw16⟩ : ∃ W : World, W = w15.alloc (.cells #[.int .i64 7] 3) := ⟨_, rfl⟩
      have hb16 : Below w15.heap.size w15 w16 := by rw [hw16]; exact (Below.refl _ _).alloc (Nat.le_refl _) _
      have hx16 : w16.heap[w15.heap.size]? = some (.cells #[.int .i64 7] 3 (0, 0)) := by rw [hw16]; exact heap_alloc_new _ _
      have hZ16 : Below w.heap.size w w16 := below_after HZ15.out hb16
      have hs16 : w15.heap.size < w16.heap.size := by rw [hw16]; simp
      have HZ16 := Lib.hid hZ16
      have HB16 := Lib.hid hb16
      have HW16 := Lib.hid hw16
      have HXR := Lib.hid hx16
      clear hZ16 hb16 hw16 hx16
      go_wp2_with fail
      rw [← HW16.out]
      refine (same7 (own_below (own_below (own_below (own_below (own_below HOI1.out HB12.out) HB13.out) HB14.out) HB15.out) HB16.out) HXR.out).mono ?_
      rintro e w17 ⟨rfl, hb17⟩
      have hZ17 : Below w.heap.size w w17 := below_after HZ16.out hb17
      have hs17 : w16.heap.size ≤ w17.heap.size := hb17.size
      have HZ17 := Lib.hid hZ17
      have HB17 := Lib.hid hb17
      clear hZ17 hb17
      go_wp2_with fail
      refine (sameN (own_below (own_below HOI3.out HB16.out) HB17.out) (own_below (own_below (own_below (own_below HOI2.out HB14.out) HB15.out) HB16.out) HB17.out) HNS.out.2).mono ?_
      rintro e w18 ⟨rfl, hb18⟩
      have hZ18 : Below w.heap.size w w18 := below_after HZ17.out hb18
      have hs18 : w17.heap.size ≤ w18.heap.size := hb18.size
      have HZ18 := Lib.hid hZ18
      have HB18 := Lib.hid hb18
      clear hZ18 hb18
      go_wp2_with fail
      go_ret
      exact ⟨rfl, HZ18.out⟩

set_option maxRecDepth 100000 in
theorem lifted (os : Os) (started : os.Started) (H : Type) (enc : TypeId × Value → H) :
    ReturnsInHanded {} Tryd.checked os 7 .any (fun w args => (Rows.fnMessageSpec.pre enc Tryd.prog Tryd.f7 Rows.fnMessageRow.domain false w args ∧ laidMetH Tryd.prog DCard.laid w) ∧ sizedMet enc Tryd.prog Tryd.f7 (OpenSpec.ofChange Rows.fnMessageSpec) false w args) (Rows.fnMessageSpec.post enc Tryd.prog Tryd.f7 false true false false) := by
  refine DCard.returns_and_shaped (C := Tryd.checked) (X := fun w _ => laidMetH Tryd.prog DCard.laid w) (fun _ _ _ hh h => h.of_heap hh) Facts.own started (by kernel_rfl) Tryd.func7
    (ChangeSpec.witness_shaped (enc := enc) (C := Tryd.checked) (os := os) (X := fun w _ => laidMetH Tryd.prog DCard.laid w) false (World.laidAll Tryd.prog os DCard.laid) #[.slice none 0 0, .slice none 0 0] 8 (World.laidAll_os _ _ _) (DCard.shaped os _) (by kernel_rfl) (by kernel_rfl) (by kernel_rfl) (DCard.met os _)) ?_
  intro W base args ds gs before hval0 hW hcnd hsz0 hL hsh _
  have hsz : (DataW.weightsEach Tryd.prog (Tryd.f7.params.toList ++ Rows.fnMessageSpec.plain.varTypes Tryd.prog) (ds ++ gs)).all (· ≤ reachBytes) = true := hsz0
  have hval : ∀ (j : Nat) t v, Tryd.f7.params[j]? = some t → args[j]? = some v → Value.okWide Tryd.prog W .any base t v := hval0
  have hW' := hW
  obtain ⟨p, q, hA0, hV, rfl, hfz, hnd⟩ := hW
  have hA : DataW.TrodAll enc Tryd.prog W 0 (fun _ => true) true Tryd.f7.params.toList args.toList ds p := hA0
  rw [Tryd.params7] at hA hval hsz
  obtain ⟨rfl, rfl⟩ := trodVars_none hV
  have hltp : ∀ x ∈ p, x.block < W.heap.size := fun x hx => by simpa using hW'.lt x (by simp [hx])
  clear hA0 hval0 hsz0
  obtain ⟨v0, v1, d0, d1, p0, p1, rfl, rfl, rfl, h0, h1⟩ := trodAll_two hA
  obtain ⟨A, c, xs, rfl, hx, hm⟩ := open_bytes (hval 0 45 v0 rfl rfl) h0
  obtain ⟨B, d, ys, rfl, hy, hm'⟩ := open_bytes (hval 1 45 v1 rfl rfl) h1
  have hml : ML W := Go.Proofs.cell_of_shapedOpen_int (zero := #[.int .i64 0]) (t := 3) hsh (of_decide_eq_true (by kernel_rfl)) (by kernel_rfl) rfl (by kernel_rfl) (by kernel_rfl) Tryd.underlying3
  refine (law_any A B c d xs ys W hx hml hm hm').mono fun e W' ⟨he, bel⟩ => ?_
  subst he
  exact ⟨_, rfl, _, _, _, [], _, [], hW', trodAll_mk1 (shut_bool Tryd.underlying4 _), trodAll_mk2 (Below.trod Facts.laidOut (by kernel_rfl) (of_decide_eq_true (by kernel_rfl)) h0 bel (fun x hx => hltp x (List.mem_append_left _ hx))) (Below.trod Facts.laidOut (by kernel_rfl) (of_decide_eq_true (by kernel_rfl)) h1 bel (fun x hx => hltp x (List.mem_append_right _ hx))), rfl, bel.frame _, fun h => by cases h⟩
theorem named_ : Tryd.pinned.checked.prog.funcNamed Rows.fnMessageRow.func = some 7 := by kernel_rfl
set_option maxHeartbeats 8000000 in
theorem closed_ : joinedFacts Tryd.pinned.checked.prog 7 Tryd.f7 Rows.fnMessageSpec Rows.fnMessageRow = true := by
  unfold joinedFacts
  with_reducible repeat' (refine Facts.and_t ?_ ?_)
  all_goals first
    | with_reducible exact Facts.laidOut
    | with_reducible exact Facts.mapsRowed
    | with_reducible exact Facts.stopsHeard
    | with_reducible exact Facts.mayEnter
    | (rw [Facts.plainKeys]; as_aux_lemma => kernel_rfl)
    | (rw [Facts.lifts]; as_aux_lemma => kernel_rfl)
    | as_aux_lemma => kernel_rfl
theorem inst_ : Tryd.f7.isInstance Tryd.pinned.checked.prog Rows.fnMessageRow.origin Rows.fnMessageRow.targs := of_decide_eq_true (by kernel_rfl)
theorem wrap_ : Tryd.f7.isWrapper Tryd.pinned.checked.prog Rows.fnMessageRow.wrapper Rows.fnMessageRow.mainSum := by unfold Func.isWrapper; first | (rw [if_pos (by decide +kernel)]; kernel_rfl) | (rw [if_neg (by decide +kernel)]; exact ⟨rfl, rfl⟩)
theorem over : Rows.fnMessageRow.holds Tryd.pinned (OpenSpec.ofChange Rows.fnMessageSpec) :=
  OpenClaim.holds_of_wide 7 Tryd.f7 rfl rfl rfl rfl rfl rfl rfl ⟨rfl, rfl, rfl, rfl, rfl⟩ rfl rfl rfl rfl rfl named_ Tryd.func7 closed_ inst_ wrap_
    (fun os started H enc _ => lifted os started H enc)
theorem card : Rows.FnMessageCardSaid :=
  Claim7.holds_tied_plain_at .later [] [.data, .pinned] true (true, "a97576e0b56365ea0bdacdac97cfea5fd0ecb66bc38648dfe16dd45acbe255d1") true over (fun _ h => by cases h) (by kernel_rfl) (fun _ h => by cases h) fnMessage_row_tie rfl ⟨rfl, rfl⟩ (by kernel_rfl) rfl
    (fun f fn hf hfn => by
      obtain rfl : f = 7 := Option.some.inj (named_.symm.trans hf) |>.symm
      obtain rfl : fn = Tryd.f7 := (Option.some.inj (Tryd.func7.symm.trans hfn)).symm
      exact ⟨by kernel_rfl, fun j t ht => by
        rw [Tryd.params7] at ht
        have hm : t ∈ [45] := by simpa using Array.mem_of_getElem? ht
        have hall : ([45].all fun u => !Tryd.prog.wantsStandIn u) = true := by kernel_rfl
        exact (show Tryd.prog.wantsStandIn t = false by simpa using List.all_eq_true.1 hall t hm)⟩)
    (by kernel_rfl)
#print axioms card
end Go.Proofs.YtlfnpnkpjdmonaaDoor.lawMessage
namespace Go.Proofs.YtlfnpnkpjdmonaaDoor
/-- The card, under a short name, for the claim. -/
theorem fnMessage_holds : Rows.FnMessageCardSaid := lawMessage.card
end Go.Proofs.YtlfnpnkpjdmonaaDoor
