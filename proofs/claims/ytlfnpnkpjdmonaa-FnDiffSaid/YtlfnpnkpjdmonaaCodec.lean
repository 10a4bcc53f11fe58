import Derived.Test.YtlfnpnkpjdmonaaPush
set_option linter.unusedVariables false
set_option linter.unusedSimpArgs false
namespace Go.Proofs.Ytlfnpnkpjdmonaa
open Go.RowKit

/-! ### the bytes of a number, the higher ones first -/
def nb (n : Nat) : Nat → List UInt8
  | 0 => []
  | k + 1 => nb (n / 256) k ++ [UInt8.ofNat (n % 256)]
theorem nb_len (n k : Nat) : (nb n k).length = k := by
  induction k generalizing n with
  | zero => rfl
  | succ k ih => rw [nb, List.length_append, ih]; rfl
theorem u8_nat (n : Nat) : ((UInt8.ofNat (n % 256)).toNat : Int) = (n : Int) % 256 := by simp
theorem nb_front (n : Nat) : ∀ k m, nb n (m + k) = nb (n / 256 ^ k) m ++ nb n k := by
  intro k
  induction k generalizing n with
  | zero => intro m; simp [nb]
  | succ k ih =>
    intro m
    rw [← Nat.add_assoc, nb, ih, nb, List.append_assoc, Nat.div_div_eq_div_mul, Nat.pow_succ, Nat.mul_comm]
theorem be_nb (n k : Nat) : be (nb n k) = n % 256 ^ k := by
  induction k generalizing n with
  | zero => simp [nb, be, Nat.mod_one]
  | succ k ih =>
    rw [nb, be_snoc, ih, Nat.pow_succ, Nat.mul_comm (256 ^ k) 256, Nat.mod_mul]
    have : (UInt8.ofNat (n % 256)).toNat = n % 256 := by simp
    rw [this]
    omega

theorem nb_one (q : Nat) : nb q 1 = [UInt8.ofNat (q % 256)] := by simp [nb]
theorem nb_step (n k j : Nat) (hj : j + 1 ≤ k) : nb n (k - j) = UInt8.ofNat (n / 256 ^ (k - (j + 1)) % 256) :: nb n (k - (j + 1)) := by
  have h := nb_front n (k - (j + 1)) 1
  rw [show 1 + (k - (j + 1)) = k - j from by omega, nb_one] at h
  exact h
theorem set_zero (j : Nat) (v z : Value) (L : List Value) : (List.replicate (j + 1) z ++ L).set j v = List.replicate j z ++ v :: L := by
  rw [List.replicate_succ', List.append_assoc, List.set_append, if_neg (by simp)]
  simp
set_option maxRecDepth 100000 in
theorem inBytes_any (n k : Nat) (w : World) (hn : n ≤ 4611686018427387904) (hk : k ≤ 8) :
    Calls Try.prog 198 #[.int .i64 n, .int .i64 k] w fun e w' => e = .returned (.string (bs (nb n k))) ∧ Below w.heap.size w w' := by
  obtain ⟨i0, hi, hz0, hz1, hz2⟩ := info_parts infoByte
  have hz2' : i0.bytes * k ≤ 281474976710656 := by rw [hz2]; omega
  have HI := Lib.hid (And.intro hi (And.intro hz0 (And.intro hz1 hz2')))
  clear hi hz0 hz1 hz2 hz2'
  go_enter Try.func198, Try.ntmps198
  go_wp2_with (at_make; refine wpList_make_full _ rfl _ _ _ rfl w.heap.size 5 i0 (.int .u8 0) 1 Try.underlying39 HI.out.1 HI.out.2.1 HI.out.2.2.1 _ _ _ _ k rfl rfl rfl rfl HI.out.2.2.2 (by simp only [maxLen]; omega) (Nat.le_refl _) ?_; intro w1 hown1 hg1)
  have hown2 : w1.ownsRow w.heap.size 5 1 (.slice (some ⟨w.heap.size, 0, none⟩) k k) k (List.replicate k (.int .u8 0) ++ (nb n 0).map bv) := by
    rw [show (madeCells (Value.int .u8 0).cells (k * 1)).toList = List.replicate k (.int .u8 0) from by rw [Nat.mul_one]; exact toList_madeCells_one _ _] at hown1
    simpa [nb] using hown1
  have HO := Lib.hid hown2
  have hb1 : Below w.heap.size w w1 := below_grown none hg1 (Nat.le_refl _) (by simp)
  clear hown1 hown2 hg1
  go_wp2
  go_loopw [0, 6] (fun a i wr => ∃ j : Nat, j ≤ k ∧ i = .int .i64 ((j : Int) - 1) ∧ a = .int .i64 ((n / 256 ^ (k - j) : Nat) : Int) ∧ wr.ownsRow w.heap.size 5 1 (.slice (some ⟨w.heap.size, 0, none⟩) k k) k (List.replicate j (.int .u8 0) ++ (nb n (k - j)).map bv) ∧ Below w.heap.size w wr) (fun _ i _ => (intOf i + 1).toNat)
  case atStart => exact ⟨k, Nat.le_refl _, rfl, by simp, by simpa using HO.out, hb1⟩
  case round =>
    obtain ⟨j, hj, rfl, rfl, ho, hb⟩ := hrel
    have HK := Lib.hid ho
    clear ho HO
    by_cases hlt : 0 < j
    · obtain ⟨j, rfl⟩ : ∃ m, j = m + 1 := ⟨j - 1, by omega⟩
      have hq : n / 256 ^ (k - (j + 1)) ≤ n := Nat.div_le_self _ _
      generalize hgn : n / 256 ^ (k - (j + 1)) = q at *
      have HG := Lib.hid hgn
      clear hgn
      have hfr := HK.out.frozenAt j
      have hce' : ∃ u, wr.cell? ⟨w.heap.size, j, none⟩ = some u := by
        rw [HK.out.cellAt j (by omega)]
        exact ⟨_, List.getElem?_eq_getElem (by have := HK.out.1; omega)⟩
      obtain ⟨u, hcu⟩ := hce'
      go_wp2
      go_roundw
      case rel =>
        refine ⟨j, by omega, by go_num, ?_, ?_, hb.setCell (Nat.le_refl _) _⟩
        · rw [show k - j = (k - (j + 1)) + 1 from by omega, Nat.pow_succ, ← Nat.div_div_eq_div_mul, HG.out]
          go_num
        · have h := (HK.out.stored j (.int .u8 ((q : Int) % 256))).1
          rw [set_zero] at h
          rw [nb_step n k j hj, HG.out, List.map_cons]
          rw [show bv (UInt8.ofNat (q % 256)) = .int .u8 ((q : Int) % 256) from by unfold bv; rw [u8_nat]]
          exact h
      case measure => simp [intOf]
    · obtain rfl : j = 0 := by omega
      have hc := conv_str (xs := nb n k) (by rw [nb_len]; simpa using HK.out)
      go_wp2
      go_ret
      exact ⟨rfl, hb⟩
/-! ### the bytes of fields -/
def fieldsB (xs : List (List UInt8)) : List UInt8 := UInt8.ofNat (xs.length % 256) :: xs.flatMap fun x => nb x.length 2 ++ x
@[reducible] def sv (x : List UInt8) : Value := .string (bs x)
theorem bs_append (a b : List UInt8) : bs a ++ bs b = bs (a ++ b) := Go.WideShapes.bytes_inj (by simp)
theorem flatMap_take {α β : Type} (f : α → List β) (xs : List α) (k : Nat) (h : k < xs.length) : (xs.take (k + 1)).flatMap f = (xs.take k).flatMap f ++ f xs[k] := by
  rw [List.take_succ_eq_append_getElem h, List.flatMap_append]
  simp
theorem fb_len (xs : List (List UInt8)) (M : Nat) (h : ∀ x ∈ xs, x.length ≤ M) : (xs.flatMap fun x => nb x.length 2 ++ x).length ≤ xs.length * (M + 2) := by
  induction xs with
  | nil => simp
  | cons x xs ih =>
    rw [List.flatMap_cons, List.length_append, List.length_append, nb_len, List.length_cons, Nat.add_mul, Nat.one_mul]
    have h1 := h x (by simp)
    have h2 := ih fun y hy => h y (by simp [hy])
    omega
set_option maxRecDepth 100000 in
theorem fields_bytes (A : Option Addr) (c : Nat) (xs : List (List UInt8)) (w : World) (hx : Rd w w.heap.size A (xs.map sv)) (hl : xs.length ≤ 4096) (hs : ∀ x ∈ xs, x.length ≤ 4194304) :
    Calls Try.prog 126 #[.slice A xs.length c] w fun e w' => e = .returned (.string (bs (fieldsB xs))) ∧ Below w.heap.size w w' := by
  have HX := Lib.hid hx
  have HS := Lib.hid hs
  clear hx hs
  have hb0 : Below w.heap.size w (w.alloc (.cells #[.pointer none, .slice none 0 0] 200)) := by repeat (first | exact Below.refl _ _ | assumption | refine Below.drew ?_ | refine below_drewN ?_ _ | refine Below.setCell ?_ (by first | exact Nat.le_refl _ | exact Below.size (by assumption) | (simp; done) | (simp; omega) | omega) _ | refine Below.alloc ?_ (by first | exact Nat.le_refl _ | exact Below.size (by assumption) | (simp; done) | (simp; omega) | omega) _)
  have H0 := Lib.hid (fresh_Bd w)
  have hbyte : ((UInt8.ofNat (xs.length % 256)).toNat : Int) = (xs.length : Int) % 256 := u8_nat _
  have HB := Lib.hid hbyte
  clear hbyte
  go_enter Try.func126, Try.ntmps126
  go_wp2_with fail
  rw [← HB.out]
  refine (writeByte_any w.heap.size w.heap.size [] (UInt8.ofNat (xs.length % 256)) _ H0.out (by simp) (by simp)).mono ?_
  rintro e w1 ⟨rfl, h1, hb1⟩
  have hB1 : Below w.heap.size w w1 := hb0.trans hb1
  have HB1 := Lib.hid h1
  clear hb1 h1 hb0 H0 HB
  have hz1 : w.heap.size < w1.heap.size := HB1.out.lt
  go_wp2
  go_loopw [13] (fun i wr => ∃ k : Nat, k ≤ xs.length ∧ i = .int .i64 k ∧ Bd w.heap.size w.heap.size (UInt8.ofNat (xs.length % 256) :: (xs.take k).flatMap fun x => nb x.length 2 ++ x) wr ∧ Below w.heap.size w wr) (fun i _ => xs.length - (intOf i).toNat)
  case atStart => exact ⟨0, Nat.zero_le _, rfl, HB1.out, hB1⟩
  case round =>
    obtain ⟨k, hk, rfl, hd, hb⟩ := hrel
    have HD := Lib.hid hd
    clear hd HB1
    have hzr : w.heap.size < wr.heap.size := HD.out.lt
    by_cases hlt : k < xs.length
    · obtain ⟨ad, rfl, _, hca⟩ := (HX.out.below hb).at_ (map_at hlt)
      have hsl : xs[k].length ≤ 4194304 := HS.out _ (List.getElem_mem _)
      have hsz : (bs xs[k]).size = xs[k].length := by simp [ByteArray.size]
      have HFL := Lib.hid (fb_len (xs.take k) 4194304 (fun x hx => HS.out x (List.mem_of_mem_take hx)))
      go_wp2_with fail
      refine (inBytes_any xs[k].length 2 _ (by omega) (by omega)).mono ?_
      rintro e w2 ⟨rfl, hb2⟩
      have HD2 := Lib.hid (HD.out.below hb2)
      have hB2 := below_after hb hb2
      have hz2 := hb2.size
      have HAP := Lib.hid (bs_append (nb xs[k].length 2) xs[k])
      have hsz2 : (bs (nb xs[k].length 2)).size = 2 := by simp [ByteArray.size, nb_len]
      clear HD hb2 hca
      go_wp2_with fail
      rw [HAP.out]
      refine (writeString_any w.heap.size w.heap.size _ (nb xs[k].length 2 ++ xs[k]) _ HD2.out ?_ (by omega)).mono ?_
      · have h1 := HFL.out
        have h2 : (xs.take k).length ≤ 4096 := by rw [List.length_take]; omega
        have h3 : (xs.take k).length * (4194304 + 2) ≤ 4096 * (4194304 + 2) := Nat.mul_le_mul_right _ h2
        rw [List.length_cons, List.length_append, nb_len]
        omega
      rintro e w3 ⟨rfl, hd3, hb3⟩
      have HD3 := Lib.hid hd3
      have hB3 : Below w.heap.size w w3 := hB2.trans hb3
      clear hd3 hb3 HD2
      go_wp2_with fail
      go_roundw
      case rel => exact ⟨k + 1, by omega, by go_num, by rw [flatMap_take _ _ _ hlt]; exact HD3.out, hB3⟩
      case measure => simp [intOf]; omega
    · go_wp2_with fail
      refine (string_any w.heap.size w.heap.size _ _ HD.out (by omega)).mono ?_
      rintro e w2 ⟨rfl, hb2⟩
      have hB2 : Below w.heap.size w w2 := hb.trans hb2
      clear hb2
      go_wp2_with fail
      go_ret
      exact ⟨by rw [List.take_of_length_le (by omega)]; rfl, hB2⟩
end Go.Proofs.Ytlfnpnkpjdmonaa
