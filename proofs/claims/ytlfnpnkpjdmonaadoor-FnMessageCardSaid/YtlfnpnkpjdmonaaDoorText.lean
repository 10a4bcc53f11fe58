import Derived.Test.YtlfnpnkpjdmonaaDoorDDraw
import Derived.Test.YtlfnpnkpjdmonaaDoorMsg8
set_option linter.unusedVariables false
set_option linter.unusedSimpArgs false
namespace Go.Proofs.YtlfnpnkpjdmonaaDoor
open Go.RowKit

/-! ### the texts of messages -/
def hdrM (fs : List Pr) : List UInt8 := fs.flatMap fun p => p.1.data.toList ++ 58 :: 32 :: (p.2.data.toList ++ [10])
def txtM (fs : List Pr) (b : List UInt8) : List UInt8 := hdrM fs ++ 10 :: b
def DrawnM (fs : List Pr) (b : List UInt8) : Prop := fs.length ≤ 2 ∧ (∀ f ∈ fs, DrawnF f) ∧ b ∈ drawnBodies
theorem name_ok {n : List UInt8} (h : n ∈ drawnNames) : lnB n = true ∧ n.length ≤ 7 := by
  simp only [drawnNames, List.mem_cons, List.not_mem_nil, or_false] at h
  rcases h with rfl | rfl | rfl | rfl <;> exact ⟨by decide, by decide⟩
theorem value_ok {n : List UInt8} (h : n ∈ drawnValues) : lvB n = true ∧ n.length ≤ 9 := by
  simp only [drawnValues, List.mem_cons, List.not_mem_nil, or_false] at h
  rcases h with rfl | rfl | rfl | rfl <;> exact ⟨by decide, by decide⟩
theorem body_ok {n : List UInt8} (h : n ∈ drawnBodies) : n.length ≤ 9 := by
  simp only [drawnBodies, List.mem_cons, List.not_mem_nil, or_false] at h
  rcases h with rfl | rfl | rfl | rfl <;> decide
theorem drawnF_ok {f : Pr} (h : DrawnF f) : lnB f.1.data.toList = true ∧ lvB f.2.data.toList = true ∧ f.1.size ≤ 7 ∧ f.2.size ≤ 9 := by
  obtain ⟨n, hn, v, hv, rfl⟩ := h
  have h1 := name_ok hn
  have h2 := value_ok hv
  exact ⟨h1.1, h2.1, by rw [bs_size]; exact h1.2, by rw [bs_size]; exact h2.2⟩
theorem hdrM_snoc (fs : List Pr) (p : Pr) : hdrM (fs ++ [p]) = hdrM fs ++ (p.1.data.toList ++ 58 :: 32 :: (p.2.data.toList ++ [10])) := by simp [hdrM]
theorem hdrM_cons (fs : List Pr) (p : Pr) : hdrM (p :: fs) = (p.1.data.toList ++ 58 :: 32 :: (p.2.data.toList ++ [10])) ++ hdrM fs := by simp [hdrM]
theorem hdrM_len : ∀ fs : List Pr, (∀ f ∈ fs, DrawnF f) → (hdrM fs).length ≤ 19 * fs.length
  | [], _ => by simp [hdrM]
  | p :: fs, h => by
    have h1 := hdrM_len fs (fun f hf => h f (List.mem_cons_of_mem _ hf))
    have h2 := drawnF_ok (h p (List.mem_cons_self ..))
    have e1 : p.1.data.toList.length = p.1.size := rfl
    have e2 : p.2.data.toList.length = p.2.size := rfl
    rw [hdrM_cons]
    simp only [List.length_append, List.length_cons, List.length_nil, e1, e2]
    omega
theorem txtM_len {fs : List Pr} {b : List UInt8} (h : DrawnM fs b) : (txtM fs b).length ≤ 48 := by
  have h1 := hdrM_len fs h.2.1
  have h2 := body_ok h.2.2
  have h3 := h.1
  rw [txtM, List.length_append, List.length_cons]
  omega
set_option maxRecDepth 100000 in
theorem messageText1_any (p : Pr) (w : World) (hp : DrawnF p) : Calls Tryd.prog 54 #[.agg #[.string p.1, .string p.2]] w fun e w' => e = .returned (.bool false) ∧ Below w.heap.size w w' := by
  obtain ⟨h1, h2, h3, h4⟩ := drawnF_ok hp
  have hlb : lineB p.1.data.toList p.2.data.toList = true := by rw [lineB, h1, h2]; rfl
  obtain ⟨n, v⟩ := p
  have hb0 : Below w.heap.size w (w.alloc (.cells #[.string n, .string v] 49)) := by repeat (first | exact Below.refl _ _ | assumption | refine Below.drew ?_ | refine below_drewN ?_ _ | refine Below.setCell ?_ (by first | exact Nat.le_refl _ | exact Below.size (by assumption) | (simp; done) | (simp; omega) | omega) _ | refine Below.alloc ?_ (by first | exact Nat.le_refl _ | exact Below.size (by assumption) | (simp; done) | (simp; omega) | omega) _)
  have HB := Lib.hid hb0
  have HC := Lib.hid (fun W => lineOK_any n v W (by simp only at h3; omega) (by simp only at h4; omega))
  simp only at hlb
  rw [hlb] at HC
  clear hb0 hlb h1 h2 h3 h4 hp
  go_enter Tryd.func54, Tryd.ntmps54
  go_wp2_with fail
  refine (HC.out _).mono ?_
  rintro e w1 ⟨rfl, hb1⟩
  have HB1 := Lib.hid (below_after HB.out hb1)
  clear hb1
  go_wp2_with fail
  go_ret
  exact ⟨rfl, HB1.out⟩
set_option maxRecDepth 100000 in
theorem indexFd_any (A : Option Addr) (c : Nat) (fs : List Pr) (w : World) (hx : Rd w w.heap.size A (flat encP fs)) (hd : ∀ f ∈ fs, DrawnF f) (hl : fs.length ≤ 1048576) :
    Calls Tryd.prog 64 #[.slice A fs.length c, .func (.func 54) #[] #[]] w fun e w' => e = .returned (.int .i64 (-1)) ∧ Below w.heap.size w w' := by
  have HX := Lib.hid hx
  have HS := Lib.hid hd
  clear hx hd
  go_enter Tryd.func64, Tryd.ntmps64
  go_wp2_with fail
  go_loopw [8] (fun i wr => ∃ k : Nat, k ≤ fs.length ∧ i = .int .i64 k ∧ Below w.heap.size w wr) (fun i _ => fs.length - (intOf i).toNat)
  case atStart => exact ⟨0, Nat.zero_le _, rfl, Below.refl _ _⟩
  case round =>
    obtain ⟨k, hk, rfl, hb⟩ := hrel
    by_cases hlt : k < fs.length
    · obtain ⟨ad, rfl, hbl, h1, h2⟩ := (HX.out.below hb).pr hlt
      have HSM := Lib.hid (HS.out _ (List.getElem_mem hlt))
      obtain ⟨m, hm⟩ : ∃ m, m = fs[k] := ⟨_, rfl⟩
      rw [← hm] at h1 h2 HSM
      have HB := Lib.hid hb
      clear hm hb
      go_wp2_with fail
      refine (messageText1_any m _ HSM.out).mono ?_
      rintro e w2 ⟨rfl, hb2⟩
      have HB2 := Lib.hid (below_after HB.out hb2)
      clear hb2
      go_wp2_with fail
      go_roundw
      case rel => exact ⟨k + 1, hlt, by go_num, HB2.out⟩
      case measure => simp [intOf]; omega
    · go_wp2_with fail
      go_ret
      exact ⟨rfl, hb⟩
theorem containsFd_any (A : Option Addr) (c : Nat) (fs : List Pr) (w : World) (hx : Rd w w.heap.size A (flat encP fs)) (hd : ∀ f ∈ fs, DrawnF f) (hl : fs.length ≤ 1048576) :
    Calls Tryd.prog 53 #[.slice A fs.length c, .func (.func 54) #[] #[]] w fun e w' => e = .returned (.bool false) ∧ Below w.heap.size w w' := by
  have HC := Lib.hid (indexFd_any A c fs w hx hd hl)
  clear hx hd
  go_enter Tryd.func53, Tryd.ntmps53
  go_wp2_with fail
  refine HC.out.mono ?_
  rintro e w1 ⟨rfl, hb⟩
  have HB := Lib.hid hb
  clear hb
  go_wp2_with fail
  go_ret
  exact ⟨rfl, HB.out⟩
def TxtPost (fs : List Pr) (b : List UInt8) (w : World) (e : Ending) (w' : World) : Prop := e = .returned (.tuple #[.string (bs (txtM fs b)), .int .i64 0]) ∧ Below w.heap.size w w'
set_option maxRecDepth 100000 in
set_option maxHeartbeats 2000000 in
theorem implText_any (A : Option Addr) (c : Nat) (fs : List Pr) (b : List UInt8) (w : World) (hx : Rd w w.heap.size A (flat encP fs)) (hd : DrawnM fs b) :
    Calls Tryd.prog 28 #[msgV A fs.length c (bs b)] w (TxtPost fs b w) := by
  obtain ⟨w1, hw1⟩ : ∃ W : World, W = w.alloc (.cells #[.slice A fs.length c, .string (bs b)] 28) := ⟨_, rfl⟩
  have hb1 : Below w.heap.size w w1 := by rw [hw1]; exact (Below.refl _ _).alloc (Nat.le_refl _) _
  have hbox : w1.heap[w.heap.size]? = some (.cells #[.slice A fs.length c, .string (bs b)] 28 (0, 0)) := by rw [hw1]; exact heap_alloc_new _ _
  have hs1 : w.heap.size < w1.heap.size := by rw [hw1]; simp
  have HW := Lib.hid hw1
  have HD := Lib.hid hd
  have HX := Lib.hid (hx.next hb1)
  have HB1 := Lib.hid hb1
  have HBX := Lib.hid hbox
  have hl2 := hd.1
  have hbl := body_ok hd.2.2
  have hsb := bs_size b
  have HC := Lib.hid (containsFd_any A c fs w1 HX.out hd.2.1 (by omega))
  have b0 : w1.cell? ⟨w.heap.size, 0, none⟩ = some (.slice A fs.length c) := by rw [cell_of_row w1 _ 0 _ _ _ hbox]; rfl
  have b1 : w1.cell? ⟨w.heap.size, 1, none⟩ = some (.string (bs b)) := by rw [cell_of_row w1 _ 1 _ _ _ hbox]; rfl
  rw [hw1] at b0 b1
  clear hd hx hw1 hb1 hbox
  go_enter Tryd.func28, Tryd.ntmps28
  go_wp2_with fail
  rw [← HW.out]
  refine HC.out.mono ?_
  rintro e w2 ⟨rfl, hb2⟩
  have HB2 := Lib.hid (below_after HB1.out hb2)
  have HX2 := Lib.hid (HX.out.next hb2)
  have HBX2 := Lib.hid ((hb2.block _ hs1).trans HBX.out)
  have hs2 := hb2.size
  clear hb2 HC HX HB1 HBX b0 b1
  have b0 : w2.cell? ⟨w.heap.size, 0, none⟩ = some (.slice A fs.length c) := by rw [cell_of_row w2 _ 0 _ _ _ HBX2.out]; rfl
  have b1 : w2.cell? ⟨w.heap.size, 1, none⟩ = some (.string (bs b)) := by rw [cell_of_row w2 _ 1 _ _ _ HBX2.out]; rfl
  go_wp2_with fail
  clear b0 b1
  go_loopw [4, 25] (fun t i wr => ∃ k : Nat, k ≤ fs.length ∧ i = .int .i64 k ∧ t = .string (bs (hdrM (fs.take k))) ∧ Below w2.heap.size w2 wr) (fun _ i _ => fs.length - (intOf i).toNat)
  case atStart => exact ⟨0, Nat.zero_le _, rfl, rfl, Below.refl _ _⟩
  case round =>
    obtain ⟨k, hk, rfl, rfl, hb⟩ := hrel
    have HB := Lib.hid hb
    have HHL := Lib.hid (hdrM_len (fs.take k) (fun f hf => HD.out.2.1 f (List.mem_of_mem_take hf)))
    by_cases hlt : k < fs.length
    · obtain ⟨ad, rfl, hbl2, h1, h2⟩ := (HX2.out.below hb).pr hlt
      have HDF := Lib.hid (drawnF_ok (HD.out.2.1 _ (List.getElem_mem hlt)))
      have HTK : Hid (hdrM (fs.take (k + 1)) = hdrM (fs.take k) ++ (fs[k].1.data.toList ++ 58 :: 32 :: (fs[k].2.data.toList ++ [10]))) := by show _ = _; rw [List.take_succ_eq_append_getElem hlt, hdrM_snoc]
      obtain ⟨m, hm⟩ : ∃ m, m = fs[k] := ⟨_, rfl⟩
      rw [← hm] at h1 h2 HDF HTK
      have hsw := hb.size
      clear hm hb
      have HBN := Lib.hid (HB.out.alloc hsw (.cells #[.string m.1, .string m.2] 49))
      have hm1 := HDF.out.2.2.1
      have hm2 := HDF.out.2.2.2
      have hm3 : (hdrM (fs.take k)).length ≤ 38 := by have := HHL.out; rw [List.length_take] at this; omega
      go_wp2_with fail
      go_roundw
      case rel =>
        refine ⟨k + 1, hlt, by go_num, ?_, HBN.out⟩
        rw [HTK.out]
        generalize hdrM (fs.take k) = h0
        obtain ⟨⟨⟨n⟩⟩, ⟨⟨v⟩⟩⟩ := m
        exact congrArg Value.string (ByteArray.ext (by simp [bs]))
      case measure => simp [intOf]; omega
    · have hkk : k = fs.length := by omega
      have hm3 : (hdrM (fs.take k)).length ≤ 38 := by have := HHL.out; rw [List.length_take] at this; omega
      rw [hkk, List.take_length] at hm3 HHL ⊢
      have hs5 := hb.size
      have b1 : wr.cell? ⟨w.heap.size, 1, none⟩ = some (.string (bs b)) := by rw [cell_of_row wr _ 1 _ _ _ ((hb.block _ (by omega)).trans HBX2.out)]; rfl
      have HBF := Lib.hid (below_after HB2.out hb)
      clear hb
      have e9 : bs (hdrM fs) ++ ((⟨#[10]⟩ : ByteArray) ++ bs b) = bs (txtM fs b) := ByteArray.ext (by simp [bs, txtM])
      have hm4 : (bs (hdrM fs) ++ ((⟨#[10]⟩ : ByteArray) ++ bs b)).size ≤ 85 := by rw [e9, bs_size]; have := txtM_len HD.out; omega
      have HE9 := Lib.hid e9
      clear e9
      go_wp2_with fail
      go_ret2
      exact ⟨congrArg (fun s => Ending.returned (.tuple #[.string s, .int .i64 0])) HE9.out, HBF.out⟩
set_option maxRecDepth 100000 in
set_option maxHeartbeats 2000000 in
theorem l08Text_any (A : Option Addr) (c : Nat) (fs : List Pr) (b : List UInt8) (w : World) (hx : Rd w w.heap.size A (flat encP fs)) (hd : DrawnM fs b) :
    Calls Tryd.prog 58 #[msgV A fs.length c (bs b)] w fun e w' => e = .returned (.string (bs (txtM fs b))) ∧ Below w.heap.size w w' := by
  obtain ⟨w1, hw1⟩ : ∃ W : World, W = w.alloc (.cells #[.slice A fs.length c, .string (bs b)] 28) := ⟨_, rfl⟩
  have hb1 : Below w.heap.size w w1 := by rw [hw1]; exact (Below.refl _ _).alloc (Nat.le_refl _) _
  have hbox : w1.heap[w.heap.size]? = some (.cells #[.slice A fs.length c, .string (bs b)] 28 (0, 0)) := by rw [hw1]; exact heap_alloc_new _ _
  have b0 : w1.cell? ⟨w.heap.size, 0, none⟩ = some (.slice A fs.length c) := by rw [cell_of_row w1 _ 0 _ _ _ hbox]; rfl
  have b1 : w1.cell? ⟨w.heap.size, 1, none⟩ = some (.string (bs b)) := by rw [cell_of_row w1 _ 1 _ _ _ hbox]; rfl
  have hs1 : w.heap.size < w1.heap.size := by rw [hw1]; simp
  have HW := Lib.hid hw1
  have HD := Lib.hid hd
  have HX := Lib.hid (hx.next hb1)
  have HB1 := Lib.hid hb1
  have HBX := Lib.hid hbox
  have hl2 := hd.1
  have hbl := body_ok hd.2.2
  have hsb := bs_size b
  rw [hw1] at b0 b1
  clear hd hx hw1 hb1 hbox
  go_enter Tryd.func58, Tryd.ntmps58
  go_wp2_with fail
  rw [← HW.out]
  clear b0 b1
  go_loopw [3, 4] (fun t i wr => ∃ k : Nat, k ≤ fs.length ∧ i = .int .i64 k ∧ t = .string (bs (hdrM (fs.take k))) ∧ Below w1.heap.size w1 wr) (fun _ i _ => fs.length - (intOf i).toNat)
  case atStart => exact ⟨0, Nat.zero_le _, rfl, rfl, Below.refl _ _⟩
  case round =>
    obtain ⟨k, hk, rfl, rfl, hb⟩ := hrel
    have HB := Lib.hid hb
    have hbx := (hb.block _ hs1).trans HBX.out
    have b0 : wr.cell? ⟨w.heap.size, 0, none⟩ = some (.slice A fs.length c) := by rw [cell_of_row wr _ 0 _ _ _ hbx]; rfl
    have b1 : wr.cell? ⟨w.heap.size, 1, none⟩ = some (.string (bs b)) := by rw [cell_of_row wr _ 1 _ _ _ hbx]; rfl
    have HHL := Lib.hid (hdrM_len (fs.take k) (fun f hf => HD.out.2.1 f (List.mem_of_mem_take hf)))
    clear hbx
    by_cases hlt : k < fs.length
    · obtain ⟨ad, rfl, hbl2, h1, h2⟩ := (HX.out.below hb).pr hlt
      have HDF := Lib.hid (drawnF_ok (HD.out.2.1 _ (List.getElem_mem hlt)))
      have HTK : Hid (hdrM (fs.take (k + 1)) = hdrM (fs.take k) ++ (fs[k].1.data.toList ++ 58 :: 32 :: (fs[k].2.data.toList ++ [10]))) := by show _ = _; rw [List.take_succ_eq_append_getElem hlt, hdrM_snoc]
      obtain ⟨m, hm⟩ : ∃ m, m = fs[k] := ⟨_, rfl⟩
      rw [← hm] at h1 h2 HDF HTK
      clear hm hb
      have hm1 := HDF.out.2.2.1
      have hm2 := HDF.out.2.2.2
      have hm3 : (hdrM (fs.take k)).length ≤ 38 := by have := HHL.out; rw [List.length_take] at this; omega
      go_wp2_with fail
      go_quiet (fail)
      go_wp2_with fail
      go_roundw
      case rel =>
        refine ⟨k + 1, hlt, by go_num, ?_, below_drewN HB.out _⟩
        rw [HTK.out]
        generalize hdrM (fs.take k) = h0
        obtain ⟨⟨⟨n⟩⟩, ⟨⟨v⟩⟩⟩ := m
        exact congrArg Value.string (ByteArray.ext (by simp [bs]))
      case measure => simp [intOf]; omega
    · have hkk : k = fs.length := by omega
      have hm3 : (hdrM (fs.take k)).length ≤ 38 := by have := HHL.out; rw [List.length_take] at this; omega
      rw [hkk, List.take_length] at hm3 HHL ⊢
      have HBF := Lib.hid (below_after HB1.out hb)
      clear hb
      have e9 : bs (hdrM fs) ++ (⟨#[10]⟩ : ByteArray) ++ bs b = bs (txtM fs b) := ByteArray.ext (by simp [bs, txtM])
      have HE9 := Lib.hid e9
      clear e9
      go_wp2_with fail
      go_ret
      exact ⟨congrArg (fun s => Ending.returned (.string s)) HE9.out, HBF.out⟩
set_option maxRecDepth 100000 in
set_option maxHeartbeats 2000000 in
theorem specText_any (A : Option Addr) (c : Nat) (fs : List Pr) (b : List UInt8) (w : World) (hx : Rd w w.heap.size A (flat encP fs)) (hd : DrawnM fs b) :
    Calls Tryd.prog 29 #[msgV A fs.length c (bs b)] w (TxtPost fs b w) := by
  obtain ⟨w1, hw1⟩ : ∃ W : World, W = w.alloc (.cells #[.slice A fs.length c, .string (bs b)] 28) := ⟨_, rfl⟩
  have hb1 : Below w.heap.size w w1 := by rw [hw1]; exact (Below.refl _ _).alloc (Nat.le_refl _) _
  have hbox : w1.heap[w.heap.size]? = some (.cells #[.slice A fs.length c, .string (bs b)] 28 (0, 0)) := by rw [hw1]; exact heap_alloc_new _ _
  have b0 : w1.cell? ⟨w.heap.size, 0, none⟩ = some (.slice A fs.length c) := by rw [cell_of_row w1 _ 0 _ _ _ hbox]; rfl
  have b1 : w1.cell? ⟨w.heap.size, 1, none⟩ = some (.string (bs b)) := by rw [cell_of_row w1 _ 1 _ _ _ hbox]; rfl
  have hs1 : w.heap.size < w1.heap.size := by rw [hw1]; simp
  have HW := Lib.hid hw1
  have HD := Lib.hid hd
  have HX := Lib.hid (hx.next hb1)
  have HB1 := Lib.hid hb1
  have HBX := Lib.hid hbox
  have hl2 := hd.1
  have hbl := body_ok hd.2.2
  have hsb := bs_size b
  rw [hw1] at b0 b1
  clear hd hx hw1 hb1 hbox
  go_enter Tryd.func29, Tryd.ntmps29
  go_wp2_with fail
  rw [← HW.out]
  clear b0 b1
  go_loopw [4] (fun i wr => ∃ k : Nat, k ≤ fs.length ∧ i = .int .i64 k ∧ Below w1.heap.size w1 wr) (fun i _ => fs.length - (intOf i).toNat)
  case atStart => exact ⟨0, Nat.zero_le _, rfl, Below.refl _ _⟩
  case round =>
    obtain ⟨k, hk, rfl, hb⟩ := hrel
    have HB := Lib.hid hb
    have hbx := (hb.block _ hs1).trans HBX.out
    have b0 : wr.cell? ⟨w.heap.size, 0, none⟩ = some (.slice A fs.length c) := by rw [cell_of_row wr _ 0 _ _ _ hbx]; rfl
    have b1 : wr.cell? ⟨w.heap.size, 1, none⟩ = some (.string (bs b)) := by rw [cell_of_row wr _ 1 _ _ _ hbx]; rfl
    clear hbx
    by_cases hlt : k < fs.length
    · obtain ⟨ad, rfl, hbl2, h1, h2⟩ := (HX.out.below hb).pr hlt
      have HDF := Lib.hid (drawnF_ok (HD.out.2.1 _ (List.getElem_mem hlt)))
      obtain ⟨m, hm⟩ : ∃ m, m = fs[k] := ⟨_, rfl⟩
      rw [← hm] at h1 h2 HDF
      clear hm hb
      have hm1 := HDF.out.2.2.1
      have hm2 := HDF.out.2.2.2
      have HLN := Lib.hid (fun W => l08Name_any m.1 W (by simp only [maxLen]; omega))
      have HLV := Lib.hid (fun W => l08Value_any m.2 W (by simp only [maxLen]; omega))
      rw [HDF.out.1] at HLN
      rw [HDF.out.2.1] at HLV
      go_wp2_with (first | (go_at_call 56; refine (HLN.out _).mono ?_; rintro e w' ⟨rfl, rfl⟩) | (go_at_call 57; refine (HLV.out _).mono ?_; rintro e w' ⟨rfl, rfl⟩))
      go_roundw
      case rel => exact ⟨k + 1, hlt, by go_num, HB.out⟩
      case measure => simp [intOf]; omega
    · have HBF := Lib.hid (below_after HB1.out hb)
      clear hb
      have htl := txtM_len HD.out
      have hst := bs_size (txtM fs b)
      go_wp2_with fail
      refine (l08Text_any A c fs b wr (HX.out.next HB.out) HD.out).mono ?_
      rintro e w2 ⟨rfl, hb2⟩
      have HB2 := Lib.hid (below_after HBF.out hb2)
      clear hb2
      go_wp2_with fail
      go_ret2
      exact ⟨rfl, HB2.out⟩
/-- a message that is made out of choices -/
def MsgMade (w : World) (e : Ending) (w' : World) : Prop := ∃ (A : Option Addr) (c : Nat) (fs : List Pr) (b : List UInt8), e = .returned (msgV A fs.length c (bs b)) ∧ DrawnM fs b ∧ w'.ownsRow w.heap.size 49 2 (.slice A fs.length c) fs.length (flat encP fs) ∧ Below w.heap.size w w'
set_option maxRecDepth 100000 in
theorem messageOf_any (A : Option Addr) (c : Nat) (xs : List UInt8) (w : World) (hx : Rd w w.heap.size A (xs.map bv)) (hl : xs.length ≤ 1048576) :
    Calls Tryd.prog 27 #[.slice A xs.length c] w (MsgMade w) := by
  obtain ⟨w1, hw1⟩ : ∃ W : World, W = w.alloc (.cells #[.slice none 0 0, .string ⟨#[]⟩] 28) := ⟨_, rfl⟩
  have hb1 : Below w.heap.size w w1 := by rw [hw1]; exact (Below.refl _ _).alloc (Nat.le_refl _) _
  have hbox : w1.heap[w.heap.size]? = some (.cells #[.slice none 0 0, .string ⟨#[]⟩] 28 (0, 0)) := by rw [hw1]; exact heap_alloc_new _ _
  have hs1 : w.heap.size < w1.heap.size := by rw [hw1]; simp
  have HW := Lib.hid hw1
  have HX := Lib.hid (hx.next hb1)
  have HB1 := Lib.hid hb1
  have HBX := Lib.hid hbox
  clear hx hw1 hb1 hbox
  go_enter Tryd.func27, Tryd.ntmps27
  go_wp2_with fail
  rw [← HW.out]
  refine (source_any A c xs w1 HX.out hl).mono ?_
  rintro e w2 ⟨rfl, hs, hb2⟩
  have HS := Lib.hid hs
  have HB2 := Lib.hid hb2
  have hs2 := hb2.size
  clear hs hb2
  go_wp2_with fail
  refine (message_any w1.heap.size 0 w2 HS.out (by omega)).mono ?_
  rintro e w3 ⟨B, d, fs, b, rfl, h1, h2, h3, ho, hg⟩
  have hlt2 := HS.out.lt
  have hs3 := hg.size
  have HD : Hid (DrawnM fs b) := ⟨h1, h2, h3⟩
  have HO := Lib.hid ho
  have hbx := (hg.block _ (by omega) (fun e => by injection e; omega)).trans ((HB2.out.block _ hs1).trans HBX.out)
  have HBZ := Lib.hid hbx
  have HG : Hid (Below w.heap.size w w3) := (HB1.out.grown (grown_below HB2.out (some w1.heap.size)) (by omega) (fun k e => by injection e; omega)).grown hg (by omega) (fun k e => by injection e; omega)
  have c0 : w3.cell? ⟨w.heap.size, 0, none⟩ = some (.slice none 0 0) := by rw [cell_of_row w3 _ 0 _ _ _ hbx]; rfl
  have c1 : w3.cell? ⟨w.heap.size, 1, none⟩ = some (.string ⟨#[]⟩) := by rw [cell_of_row w3 _ 1 _ _ _ hbx]; rfl
  have f0 : ∀ i, w3.frozen? ⟨w.heap.size, i, none⟩ = false := fun i => Lib.frozen_of_heap hbx i
  clear h1 h2 h3 ho hg hbx HS
  go_wp2_with fail
  have e1 := heap_setCell_same w3 w.heap.size 0 _ _ (.slice B fs.length d) HBZ.out
  have e2 := heap_setCell_same _ w.heap.size 1 _ _ (.string (bs b)) e1
  have ho2 : ((w3.setCell ⟨w.heap.size, 0, none⟩ (.slice B fs.length d)).setCell ⟨w.heap.size, 1, none⟩ (.string (bs b))).ownsRow w.heap.size 49 2 (.slice B fs.length d) fs.length (flat encP fs) :=
    own_mono (ownSet (ownSet HO.out (by omega) 0 _) (by omega) 1 _) (by omega)
  have hg2 : Below w.heap.size w ((w3.setCell ⟨w.heap.size, 0, none⟩ (.slice B fs.length d)).setCell ⟨w.heap.size, 1, none⟩ (.string (bs b))) := (HG.out.setCell (p := ⟨w.heap.size, 0, none⟩) (Nat.le_refl _) _).setCell (p := ⟨w.heap.size, 1, none⟩) (Nat.le_refl _) _
  have e3 : ((w3.setCell ⟨w.heap.size, 0, none⟩ (.slice B fs.length d)).setCell ⟨w.heap.size, 1, none⟩ (.string (bs b))).heap[w.heap.size]? = some (.cells #[.slice B fs.length d, .string (bs b)] 28 (0, 0)) := by simpa using e2
  generalize ((w3.setCell ⟨w.heap.size, 0, none⟩ (.slice B fs.length d)).setCell ⟨w.heap.size, 1, none⟩ (.string (bs b))) = W5 at ho2 hg2 e3 ⊢
  have z0 : W5.cell? ⟨w.heap.size, 0, none⟩ = some (.slice B fs.length d) := by rw [cell_of_row W5 _ 0 _ _ _ e3]; rfl
  have z1 : W5.cell? ⟨w.heap.size, 1, none⟩ = some (.string (bs b)) := by rw [cell_of_row W5 _ 1 _ _ _ e3]; rfl
  exact bodyPost_ret (v := msgV B fs.length d (bs b)) (by simp [results, Tryd.results27, go_sem, z0, z1]) rfl ⟨B, d, fs, b, rfl, HD.out, ho2, hg2⟩
end Go.Proofs.YtlfnpnkpjdmonaaDoor
