import Derived.Test.YtlfnpnkpjdmonaaPush
set_option linter.unusedVariables false
set_option linter.unusedSimpArgs false
namespace Go.Proofs.Ytlfnpnkpjdmonaa
open Go.RowKit

/-! ### the bytes of a number, the higher ones first -/
def nb (n : Nat) : Nat → List UInt8
  | 0 => []
  | k + 1 => nb (n / 256) k ++ [UInt8.ofNat (n % 256)]
theorem nb_len (n k : Nat) : (nb n k).length = k := by
  induction k generalizing n with
  | zero => rfl
  | succ k ih => rw [nb, List.length_append, ih]; rfl
theorem u8_nat (n : Nat) : ((UInt8.ofNat (n % 256)).toNat : Int) = (n : Int) % 256 := by simp
theorem nb_front (n : Nat) : ∀ k m, nb n (m + k) = nb (n / 256 ^ k) m ++ nb n k := by
  intro k
  induction k generalizing n with
  | zero => intro m; simp [nb]
  | succ k ih =>
    intro m
    rw [← Nat.add_assoc, nb, ih, nb, List.append_assoc, Nat.div_div_eq_div_mul, Nat.pow_succ, Nat.mul_comm]
theorem be_nb (n k : Nat) : be (nb n k) = n % 256 ^ k := by
  induction k generalizing n with
  | zero => simp [nb, be, Nat.mod_one]
  | succ k ih =>
    rw [nb, be_snoc, ih, Nat.pow_succ, Nat.mul_comm (256 ^ k) 256, Nat.mod_mul]
    have : (UInt8.ofNat (n % 256)).toNat = n % 256 := by simp
    rw [this]
    omega

theorem nb_one (q : Nat) : nb q 1 = [UInt8.ofNat (q % 256)] := by simp [nb]
theorem nb_step (n k j : Nat) (hj : j + 1 ≤ k) : nb n (k - j) = UInt8.ofNat (n / 256 ^ (k - (j + 1)) % 256) :: nb n (k - (j + 1)) := by
  have h := nb_front n (k - (j + 1)) 1
  rw [show 1 + (k - (j + 1)) = k - j from by omega, nb_one] at h
  exact h
theorem set_zero (j : Nat) (v z : Value) (L : List Value) : (List.replicate (j + 1) z ++ L).set j v = List.replicate j z ++ v :: L := by
  rw [List.replicate_succ', List.append_assoc, List.set_append, if_neg (by simp)]
  simp
set_option maxRecDepth 100000 in
theorem inBytes_any (n k : Nat) (w : World) (hn : n ≤ 4611686018427387904) (hk : k ≤ 8) :
    Calls Try.prog 198 #[.int .i64 n, .int .i64 k] w fun e w' => e = .returned (.string (bs (nb n k))) ∧ Below w.heap.size w w' := by
  obtain ⟨i0, hi, hz0, hz1, hz2⟩ := info_parts infoByte
  have hz2' : i0.bytes * k ≤ 281474976710656 := by rw [hz2]; omega
  have HI := Lib.hid (And.intro hi (And.intro hz0 (And.intro hz1 hz2')))
  clear hi hz0 hz1 hz2 hz2'
  go_enter Try.func198, Try.ntmps198
  go_wp2_with (at_make; refine wpList_make_full _ rfl _ _ _ rfl w.heap.size 5 i0 (.int .u8 0) 1 Try.underlying39 HI.out.1 HI.out.2.1 HI.out.2.2.1 _ _ _ _ k rfl rfl rfl rfl HI.out.2.2.2 (by simp only [maxLen]; omega) (Nat.le_refl _) ?_; intro w1 hown1 hg1)
  have hown2 : w1.ownsRow w.heap.size 5 1 (.slice (some ⟨w.heap.size, 0, none⟩) k k) k (List.replicate k (.int .u8 0) ++ (nb n 0).map bv) := by
    rw [show (madeCells (Value.int .u8 0).cells (k * 1)).toList = List.replicate k (.int .u8 0) from by rw [Nat.mul_one]; exact toList_madeCells_one _ _] at hown1
    simpa [nb] using hown1
  have HO := Lib.hid hown2
  have hb1 : Below w.heap.size w w1 := below_grown none hg1 (Nat.le_refl _) (by simp)
  clear hown1 hown2 hg1
  go_wp2
  go_loopw [0, 6] (fun a i wr => ∃ j : Nat, j ≤ k ∧ i = .int .i64 ((j : Int) - 1) ∧ a = .int .i64 ((n / 256 ^ (k - j) : Nat) : Int) ∧ wr.ownsRow w.heap.size 5 1 (.slice (some ⟨w.heap.size, 0, none⟩) k k) k (List.replicate j (.int .u8 0) ++ (nb n (k - j)).map bv) ∧ Below w.heap.size w wr) (fun _ i _ => (intOf i + 1).toNat)
  case atStart => exact ⟨k, Nat.le_refl _, rfl, by simp, by simpa using HO.out, hb1⟩
  case round =>
    obtain ⟨j, hj, rfl, rfl, ho, hb⟩ := hrel
    have HK := Lib.hid ho
    clear ho HO
    by_cases hlt : 0 < j
    · obtain ⟨j, rfl⟩ : ∃ m, j = m + 1 := ⟨j - 1, by omega⟩
      have hq : n / 256 ^ (k - (j + 1)) ≤ n := Nat.div_le_self _ _
      generalize hgn : n / 256 ^ (k - (j + 1)) = q at *
      have HG := Lib.hid hgn
      clear hgn
      have hfr := HK.out.frozenAt j
      have hce' : ∃ u, wr.cell? ⟨w.heap.size, j, none⟩ = some u := by
        rw [HK.out.cellAt j (by omega)]
        exact ⟨_, List.getElem?_eq_getElem (by have := HK.out.1; omega)⟩
      obtain ⟨u, hcu⟩ := hce'
      go_wp2
      go_roundw
      case rel =>
        refine ⟨j, by omega, by go_num, ?_, ?_, hb.setCell (Nat.le_refl _) _⟩
        · rw [show k - j = (k - (j + 1)) + 1 from by omega, Nat.pow_succ, ← Nat.div_div_eq_div_mul, HG.out]
          go_num
        · have h := (HK.out.stored j (.int .u8 ((q : Int) % 256))).1
          rw [set_zero] at h
          rw [nb_step n k j hj, HG.out, List.map_cons]
          rw [show bv (UInt8.ofNat (q % 256)) = .int .u8 ((q : Int) % 256) from by unfold bv; rw [u8_nat]]
          exact h
      case measure => simp [intOf]
    · obtain rfl : j = 0 := by omega
      have hc := conv_str (xs := nb n k) (by rw [nb_len]; simpa using HK.out)
      go_wp2
      go_ret
      exact ⟨rfl, hb⟩
/-! ### the bytes of fields -/
def fieldsB (xs : List (List UInt8)) : List UInt8 := UInt8.ofNat (xs.length % 256) :: xs.flatMap fun x => nb x.length 2 ++ x
@[reducible] def sv (x : List UInt8) : Value := .string (bs x)
theorem bs_append (a b : List UInt8) : bs a ++ bs b = bs (a ++ b) := Go.WideShapes.bytes_inj (by simp)
theorem flatMap_take {α β : Type} (f : α → List β) (xs : List α) (k : Nat) (h : k < xs.length) : (xs.take (k + 1)).flatMap f = (xs.take k).flatMap f ++ f xs[k] := by
  rw [List.take_succ_eq_append_getElem h, List.flatMap_append]
  simp
theorem fb_len (xs : List (List UInt8)) (M : Nat) (h : ∀ x ∈ xs, x.length ≤ M) : (xs.flatMap fun x => nb x.length 2 ++ x).length ≤ xs.length * (M + 2) := by
  induction xs with
  | nil => simp
  | cons x xs ih =>
    rw [List.flatMap_cons, List.length_append, List.length_append, nb_len, List.length_cons, Nat.add_mul, Nat.one_mul]
    have h1 := h x (by simp)
    have h2 := ih fun y hy => h y (by simp [hy])
    omega
set_option maxRecDepth 100000 in
theorem fields_bytes (A : Option Addr) (c : Nat) (xs : List (List UInt8)) (w : World) (hx : Rd w w.heap.size A (xs.map sv)) (hl : xs.length ≤ 4096) (hs : ∀ x ∈ xs, x.length ≤ 4194304) :
    Calls Try.prog 126 #[.slice A xs.length c] w fun e w' => e = .returned (.string (bs (fieldsB xs))) ∧ Below w.heap.size w w' := by
  have HX := Lib.hid hx
  have HS := Lib.hid hs
  clear hx hs
  have hb0 : Below w.heap.size w (w.alloc (.cells #[.pointer none, .slice none 0 0] 200)) := by repeat (first | exact Below.refl _ _ | assumption | refine Below.drew ?_ | refine below_drewN ?_ _ | refine Below.setCell ?_ (by first | exact Nat.le_refl _ | exact Below.size (by assumption) | (simp; done) | (simp; omega) | omega) _ | refine Below.alloc ?_ (by first | exact Nat.le_refl _ | exact Below.size (by assumption) | (simp; done) | (simp; omega) | omega) _)
  have H0 := Lib.hid (fresh_Bd w)
  have hbyte : ((UInt8.ofNat (xs.length % 256)).toNat : Int) = (xs.length : Int) % 256 := u8_nat _
  have HB := Lib.hid hbyte
  clear hbyte
  go_enter Try.func126, Try.ntmps126
  go_wp2_with fail
  rw [← HB.out]
  refine (writeByte_any w.heap.size w.heap.size [] (UInt8.ofNat (xs.length % 256)) _ H0.out (by simp) (by simp)).mono ?_
  rintro e w1 ⟨rfl, h1, hb1⟩
  have hB1 : Below w.heap.size w w1 := hb0.trans hb1
  have HB1 := Lib.hid h1
  clear hb1 h1 hb0 H0 HB
  have hz1 : w.heap.size < w1.heap.size := HB1.out.lt
  go_wp2
  go_loopw [13] (fun i wr => ∃ k : Nat, k ≤ xs.length ∧ i = .int .i64 k ∧ Bd w.heap.size w.heap.size (UInt8.ofNat (xs.length % 256) :: (xs.take k).flatMap fun x => nb x.length 2 ++ x) wr ∧ Below w.heap.size w wr) (fun i _ => xs.length - (intOf i).toNat)
  case atStart => exact ⟨0, Nat.zero_le _, rfl, HB1.out, hB1⟩
  case round =>
    obtain ⟨k, hk, rfl, hd, hb⟩ := hrel
    have HD := Lib.hid hd
    clear hd HB1
    have hzr : w.heap.size < wr.heap.size := HD.out.lt
    by_cases hlt : k < xs.length
    · obtain ⟨ad, rfl, _, hca⟩ := (HX.out.below hb).at_ (map_at hlt)
      have hsl : xs[k].length ≤ 4194304 := HS.out _ (List.getElem_mem _)
      have hsz : (bs xs[k]).size = xs[k].length := by simp [ByteArray.size]
      have HFL := Lib.hid (fb_len (xs.take k) 4194304 (fun x hx => HS.out x (List.mem_of_mem_take hx)))
      go_wp2_with fail
      refine (inBytes_any xs[k].length 2 _ (by omega) (by omega)).mono ?_
      rintro e w2 ⟨rfl, hb2⟩
      have HD2 := Lib.hid (HD.out.below hb2)
      have hB2 := below_after hb hb2
      have hz2 := hb2.size
      have HAP := Lib.hid (bs_append (nb xs[k].length 2) xs[k])
      have hsz2 : (bs (nb xs[k].length 2)).size = 2 := by simp [ByteArray.size, nb_len]
      clear HD hb2 hca
      go_wp2_with fail
      rw [HAP.out]
      refine (writeString_any w.heap.size w.heap.size _ (nb xs[k].length 2 ++ xs[k]) _ HD2.out ?_ (by omega)).mono ?_
      · have h1 := HFL.out
        have h2 : (xs.take k).length ≤ 4096 := by rw [List.length_take]; omega
        have h3 : (xs.take k).length * (4194304 + 2) ≤ 4096 * (4194304 + 2) := Nat.mul_le_mul_right _ h2
        rw [List.length_cons, List.length_append, nb_len]
        omega
      rintro e w3 ⟨rfl, hd3, hb3⟩
      have HD3 := Lib.hid hd3
      have hB3 : Below w.heap.size w w3 := hB2.trans hb3
      clear hd3 hb3 HD2
      go_wp2_with fail
      go_roundw
      case rel => exact ⟨k + 1, by omega, by go_num, by rw [flatMap_take _ _ _ hlt]; exact HD3.out, hB3⟩
      case measure => simp [intOf]; omega
    · go_wp2_with fail
      refine (string_any w.heap.size w.heap.size _ _ HD.out (by omega)).mono ?_
      rintro e w2 ⟨rfl, hb2⟩
      have hB2 : Below w.heap.size w w2 := hb.trans hb2
      clear hb2
      go_wp2_with fail
      go_ret
      exact ⟨by rw [List.take_of_length_le (by omega)]; rfl, hB2⟩
end Go.Proofs.Ytlfnpnkpjdmonaa
namespace Go.Proofs.Ytlfnpnkpjdmonaa
open Go.RowKit

/-! ### the reference's bytes of a number, of fields -/
theorem nb_back (n k j : Nat) (hj : j + 1 ≤ k) : nb (n / 256 ^ j) (k - j) = nb (n / 256 ^ (j + 1)) (k - (j + 1)) ++ [UInt8.ofNat (n / 256 ^ j % 256)] := by
  rw [show k - j = (k - (j + 1)) + 1 from by omega, nb, Nat.div_div_eq_div_mul, Nat.pow_succ]
theorem bv_nat (n : Nat) : bv (UInt8.ofNat (n % 256)) = .int .u8 ((n : Int) % 256) := by unfold bv; rw [u8_nat]
theorem shr_byte (n j : Nat) : (#[Value.int .u8 ((n : Int) / 2 ^ (8 * j) % 256)] : Array Value) = #[bv (UInt8.ofNat (n / 256 ^ j % 256))] := by
  rw [bv_nat]
  have e1 : (256 : Nat) ^ j = 2 ^ (8 * j) := by rw [Nat.pow_mul]
  have e2 : ((n / 256 ^ j : Nat) : Int) = (n : Int) / 2 ^ (8 * j) := by
    rw [e1, Int.natCast_ediv, Int.natCast_pow]
    rfl
  rw [e2]
set_option maxRecDepth 100000 in
theorem l01Number_any (n k : Nat) (w : World) (hn : n ≤ 4611686018427387904) (hk : k ≤ 8) :
    Calls Try.prog 200 #[.int .i64 n, .int .i64 k] w fun e w' => ∃ v, e = .returned v ∧ w'.ownsRow w.heap.size 5 1 v k ((nb n k).map bv) ∧ Below w.heap.size w w' := by
  have H0 : Hid ((w.alloc (.cells #[] 5)).ownsRow w.heap.size 5 1 (.slice (some ⟨w.heap.size, 0, none⟩) 0 0) 0 []) := own_empty_at (Nat.le_refl _) (heap_alloc_new _ _)
  go_enter Try.func200, Try.ntmps200
  go_wp2
  go_loopw [5, 6] (fun v i wr => ∃ j : Nat, j ≤ k ∧ i = .int .i64 ((j : Int) - 1) ∧ wr.ownsRow w.heap.size 5 1 v (k - j) ((nb (n / 256 ^ j) (k - j)).map bv) ∧ Below w.heap.size w wr) (fun _ i _ => (intOf i + 1).toNat)
  case atStart => exact ⟨k, Nat.le_refl _, rfl, by simpa [nb] using H0.out, by repeat (first | exact Below.refl _ _ | assumption | refine Below.drew ?_ | refine below_drewN ?_ _ | refine Below.setCell ?_ (by first | exact Nat.le_refl _ | exact Below.size (by assumption) | (simp; done) | (simp; omega) | omega) _ | refine Below.alloc ?_ (by first | exact Nat.le_refl _ | exact Below.size (by assumption) | (simp; done) | (simp; omega) | omega) _)⟩
  case round =>
    obtain ⟨j, hj, rfl, ho, hb⟩ := hrel
    have HO := Lib.hid ho
    clear ho H0
    have hsw := hb.size
    by_cases hlt : 0 < j
    · obtain ⟨j, rfl⟩ : ∃ m, j = m + 1 := ⟨j - 1, by omega⟩
      go_wp2_with (at_builtin; refine push_one elByte rfl _ _ rfl w.heap.size _ (k - (j + 1)) _ rfl HO.out [bv (UInt8.ofNat (n / 256 ^ j % 256))] _ ?c0 rfl rfl ?c1 (by simp only [maxLen]; omega) (by omega) hsw ?_)
      case c0 => exact shr_byte n j
      case c1 => simp [Value.oneCell']
      intro v2 w2 hp
      have hb2 := hp.below HO.out hb hsw
      have HP := Lib.hid hp.1
      clear hp
      go_wp2
      go_roundw
      case rel =>
        refine ⟨j, by omega, by go_num, ?_, hb2⟩
        have h := HP.out
        rw [nb_back n k j hj, List.map_append, show k - j = k - (j + 1) + 1 from by omega]
        exact h
      case measure => simp [intOf]
    · obtain rfl : j = 0 := by omega
      go_wp2
      go_ret
      exact ⟨_, rfl, by simpa using HO.out, hb⟩

theorem fb_snoc (xs : List (List UInt8)) (k : Nat) (c : UInt8) (h : k < xs.length) : c :: ((xs.take (k + 1)).flatMap fun x => nb x.length 2 ++ x) = (c :: (xs.take k).flatMap fun x => nb x.length 2 ++ x) ++ nb xs[k].length 2 ++ xs[k] := by
  rw [flatMap_take _ _ _ h]
  simp
set_option maxRecDepth 100000 in
theorem l01Fields_any (A : Option Addr) (c : Nat) (xs : List (List UInt8)) (w : World) (hx : Rd w w.heap.size A (xs.map sv)) (hl : xs.length ≤ 4096) (hs : ∀ x ∈ xs, x.length ≤ 4194304) :
    Calls Try.prog 127 #[.slice A xs.length c] w fun e w' => ∃ v, e = .returned v ∧ w'.ownsRow w.heap.size 5 1 v (fieldsB xs).length ((fieldsB xs).map bv) ∧ Below w.heap.size w w' := by
  have HX := Lib.hid hx
  have HS := Lib.hid hs
  clear hx hs
  have H0 : Hid ((w.alloc (.cells #[.int .u8 ((xs.length : Int) % 256)] 5)).ownsRow w.heap.size 5 1 (.slice (some ⟨w.heap.size, 0, none⟩) 1 1) 1 [bv (UInt8.ofNat (xs.length % 256))]) := by
    rw [bv_nat]
    exact World.ownsRow_lit w #[.int .u8 ((xs.length : Int) % 256)] 1 (Nat.le_refl _) (by simp only [maxLen]; omega) rfl
  go_enter Try.func127, Try.ntmps127
  go_wp2
  go_loopw [3, 4] (fun v i wr => ∃ k : Nat, k ≤ xs.length ∧ i = .int .i64 k ∧ wr.ownsRow w.heap.size 5 1 v (UInt8.ofNat (xs.length % 256) :: (xs.take k).flatMap fun x => nb x.length 2 ++ x).length ((UInt8.ofNat (xs.length % 256) :: (xs.take k).flatMap fun x => nb x.length 2 ++ x).map bv) ∧ Below w.heap.size w wr) (fun _ i _ => xs.length - (intOf i).toNat)
  case atStart => exact ⟨0, Nat.zero_le _, rfl, H0.out, by repeat (first | exact Below.refl _ _ | assumption | refine Below.drew ?_ | refine below_drewN ?_ _ | refine Below.setCell ?_ (by first | exact Nat.le_refl _ | exact Below.size (by assumption) | (simp; done) | (simp; omega) | omega) _ | refine Below.alloc ?_ (by first | exact Nat.le_refl _ | exact Below.size (by assumption) | (simp; done) | (simp; omega) | omega) _)⟩
  case round =>
    obtain ⟨k, hk, rfl, ho, hb⟩ := hrel
    clear H0
    have hsw := hb.size
    by_cases hlt : k < xs.length
    · obtain ⟨ad, rfl, hbl, hca0⟩ := HX.out.at_ (map_at hlt)
      have hca := (hb.cell (p := ad.add k) (by rw [add_block]; exact hbl)).trans hca0
      have hsl : xs[k].length ≤ 4194304 := HS.out _ (List.getElem_mem _)
      have hsz : (bs xs[k]).size = xs[k].length := by simp [ByteArray.size]
      have hfl := fb_len (xs.take k) 4194304 (fun x hx => HS.out x (List.mem_of_mem_take hx))
      have hfl2 : (xs.take k).length * (4194304 + 2) ≤ 4096 * (4194304 + 2) := Nat.mul_le_mul_right _ (by rw [List.length_take]; omega)
      have HSN := Lib.hid (fb_snoc xs k (UInt8.ofNat (xs.length % 256)) hlt)
      have hlen0 : (UInt8.ofNat (xs.length % 256) :: (xs.take k).flatMap fun x => nb x.length 2 ++ x).length ≤ 17184063489 := by
        rw [List.length_cons]; omega
      generalize hL : (UInt8.ofNat (xs.length % 256) :: (xs.take k).flatMap fun x => nb x.length 2 ++ x) = L at *
      have HO := Lib.hid ho
      clear hL ho hfl hfl2
      have hi0 : (0 : Int) ≤ (k : Int) := by omega
      have hi1 : (k : Int) < (xs.length : Int) := by omega
      go_wp2_with fail
      go_region_held3 (fun w' => w'.cell? (ad.add k) = some (.string (bs xs[k])) ∧ w.heap.size ≤ w'.heap.size)
        (refine ⟨?_, ?_⟩ <;> first | assumption | omega | (simp; omega) | (exact (hb4.cell (by rw [add_block]; exact hbl)).trans hca0) | (exact (hb3.cell (by rw [add_block]; exact hbl)).trans hca0) | (exact (HB2.out.cell (by rw [add_block]; exact hbl)).trans hca0))
        (first
          | (go_at_call 200; refine (l01Number_any xs[k].length 2 _ (by omega) (by omega)).mono ?_; rintro e w2 ⟨v2, rfl, ho2, hb2⟩; have hs2 : wr.heap.size ≤ w2.heap.size := (by have := hb2.size; simpa using this); obtain ⟨A2, c2, rfl, hc2⟩ := own_form ho2; have HO2 := Lib.hid ho2; clear ho2; have HOL := Lib.hid (own_below (HO.out.drew) hb2); have HB2 := Lib.hid (below_after hb.drew hb2))
          | (refine step_push_row elByte rfl _ _ rfl w.heap.size u3 L.length _ rfl HOL.out w2.heap.size A2 2 c2 _ rfl (Rd.own HO2.out) (by simp [nb_len]) (by simp [Value.oneCell']) (by simp only [maxLen]; omega) (by omega) (by omega) (fun h => by subst h; exact absurd (own_none HO2.out).1 (by decide)) ?_; intro v3 w3 hp3; have hb3 := hp3.below HOL.out HB2.out (by omega); have hs3 : w2.heap.size ≤ w3.heap.size := hp3.2.size)
          | (refine step_push_str elByte zeroByte Try.underlying9 rfl _ _ rfl w.heap.size v3 (L.length + 2) _ rfl hp3.1 xs[k] rfl (by simp only [maxLen]; omega) (by omega) (by omega) ?_; intro v4 w4 hp4; have hb4 := hp4.below hp3.1 hb3 (by omega); have hs4 : w3.heap.size ≤ w4.heap.size := hp4.2.size))
      have HP4 := Lib.hid hp4.1
      clear hp4 hp3
      go_wp2_with fail
      go_roundw
      case rel =>
        refine ⟨k + 1, by omega, by go_num, ?_, hb4⟩
        rw [HSN.out]
        have h := HP4.out
        rw [List.length_append, List.length_append, nb_len, List.map_append, List.map_append]
        exact h
      case measure => simp [intOf]; omega
    · go_wp2
      go_ret
      have h := ho
      rw [List.take_of_length_le (by omega)] at h
      exact ⟨_, rfl, h, hb⟩
end Go.Proofs.Ytlfnpnkpjdmonaa
namespace Go.Proofs.Ytlfnpnkpjdmonaa
open Go.RowKit

/-! ### texts of bytes that are read -/
theorem conv_rd {w : World} {B : Nat} {A : Option Addr} {c : Nat} {xs : List UInt8} (h : Rd w B A (xs.map bv)) : (convert 39 9 (.slice A xs.length c)).run Try.prog w = .ok (.string (bs xs)) w := by
  by_cases hn : xs = []
  · subst hn
    cases A with
    | none => exact run_convert_bytes_nil w 39 5 Try.underlying39 Try.underlying5 0 c 9 Try.underlying9
    | some ad =>
      have hl : (loadCells ad 0).run Try.prog w = .ok #[] w := run_loadCells_list (P := Try.prog) w ad [] (fun j v hj => by simp at hj)
      rw [List.length_nil, run_convert_bytes_string w 39 9 5 _ 0 c Try.underlying39 Try.underlying5 Try.underlying9, run_bytesToString w _ 0 c [] hl]
      rfl
  · obtain ⟨ad, rfl, _, hc⟩ := h (by simpa using hn)
    have hl : (loadCells ad xs.length).run Try.prog w = .ok ((xs.map fun c => (c.toNat : Int)).map (Value.int .u8)).toArray w := by
      have := run_loadCells_list (P := Try.prog) w ad ((xs.map fun c => (c.toNat : Int)).map (Value.int .u8)) (fun j v hj => hc j v (by rw [← hj, List.map_map]; rfl))
      simpa using this
    rw [run_convert_bytes_string w 39 9 5 _ xs.length c Try.underlying39 Try.underlying5 Try.underlying9, run_bytesToString w _ xs.length c _ hl, foldl_push_bytes]
    congr 2
    rw [← str_bytes]
    simp [strOfNums, ByteArray.empty, ByteArray.emptyWithCapacity]
    rfl
theorem conv_bytes_rd (w : World) (l : List UInt8) : ∃ (g cap : Nat) (w' : World), (convert 9 39 (.string (bs l))).run Try.prog w = .ok (.slice (some ⟨g, 0, none⟩) l.length cap) w' ∧ Below w.heap.size w w' ∧ g = w.heap.size ∧ w.heap.size < w'.heap.size ∧ Rd w' w'.heap.size (some ⟨g, 0, none⟩) (l.map bv) := by
  obtain ⟨cap, w', h1, h2, h3, h4⟩ := conv_bytes w l
  refine ⟨_, cap, w', h1, h2, rfl, h3, fun _ => ⟨_, rfl, h3, fun j u hj => ?_⟩⟩
  rw [List.getElem?_map, Option.map_eq_some_iff] at hj
  obtain ⟨x, hx, rfl⟩ := hj
  obtain ⟨hjl, rfl⟩ := List.getElem?_eq_some_iff.1 hx
  have e2 : (⟨w.heap.size, 0, none⟩ : Addr).add j = ⟨w.heap.size, j, none⟩ := by
    unfold Addr.add
    by_cases h0 : j = 0 <;> simp [h0]
  rw [e2]
  exact h4 j hjl
set_option maxRecDepth 100000 in
theorem implReadFields_rd (A : Option Addr) (c B : Nat) (xs : List UInt8) (w : World) (hv : Rd w B A (xs.map bv)) (hl : xs.length ≤ 4194304) :
    Calls Try.prog 32 #[.slice A xs.length c] w (RFPost w xs) := by
  have hml : xs.length ≤ 4194304 := hl
  by_cases h6 : 65536 < xs.length
  · have HR := Lib.hid (rf_long h6)
    clear hv
    go_enter Try.func32, Try.ntmps32
    go_wp2
    go_ret2
    exact rf_mk HR.out (World.ownsRow_nil _ _ _ _) (by simp) (Below.refl _ _)
  · have hcv := conv_rd (c := c) hv
    have H6 := Lib.hid h6
    go_enter Try.func32, Try.ntmps32
    go_wp2_with fail
    refine (justFields_any xs _ hl).mono ?_
    rintro e w1 ⟨u, out, ok, rfl, ho, h255, hok, hall, hb1⟩
    have HO := Lib.hid ho
    have HB := Lib.hid hb1
    have HALL := Lib.hid hall
    clear ho hall hcv hv hb1 h6
    cases hf : full xs with
    | none =>
      have HF := Lib.hid hf
      rw [hf] at hok
      simp only [Option.isSome_none] at hok
      subst hok
      clear hf
      go_wp2
      go_ret2
      exact rf_mk (rf_no H6.out HF.out) (World.ownsRow_nil _ _ _ _) (by simp) HB.out
    | some ys =>
      have HF := Lib.hid hf
      rw [hf] at hok
      simp only [Option.isSome_some] at hok
      subst hok
      clear hf
      obtain rfl := HALL.out ys HF.out
      go_wp2
      go_ret2
      exact rf_mk (rf_ok H6.out HF.out) HO.out h255 HB.out

set_option maxRecDepth 100000 in
theorem specReadFields_rd (A : Option Addr) (c B : Nat) (xs : List UInt8) (w : World) (hv : Rd w B A (xs.map bv)) (hl : xs.length ≤ 4194304) :
    Calls Try.prog 30 #[.slice A xs.length c] w (RFPost w xs) := by
  have hml : xs.length ≤ 4194304 := hl
  by_cases h6 : 65536 < xs.length
  · have HR := Lib.hid (rf_long h6)
    clear hv
    go_enter Try.func30, Try.ntmps30
    go_wp2
    go_ret2
    exact rf_mk HR.out (own_empty_at (Nat.le_refl _) (heap_alloc_new _ _)) (by simp) (by repeat (first | exact Below.refl _ _ | assumption | refine Below.drew ?_ | refine below_drewN ?_ _ | refine Below.setCell ?_ (by first | exact Nat.le_refl _ | exact Below.size (by assumption) | (simp; done) | (simp; omega) | omega) _ | refine Below.alloc ?_ (by first | exact Nat.le_refl _ | exact Below.size (by assumption) | (simp; done) | (simp; omega) | omega) _))
  · have hcv := conv_rd (c := c) hv
    have H6 := Lib.hid h6
    go_enter Try.func30, Try.ntmps30
    go_wp2_with fail
    refine (l01Read_any xs _ hl).mono ?_
    rintro e w1 ⟨u, out, ok, rfl, ho, h255, hok, hall, hb1⟩
    have HO := Lib.hid ho
    have HB := Lib.hid hb1
    have HALL := Lib.hid hall
    have hsz1 := hb1.size
    clear ho hall hcv hv hb1 h6
    cases hf : full xs with
    | none =>
      have HF := Lib.hid hf
      rw [hf] at hok
      simp only [Option.isSome_none] at hok
      subst hok
      clear hf
      go_wp2
      go_ret2
      exact rf_mk (rf_no H6.out HF.out) (own_empty_at hsz1 (heap_alloc_new _ _)) (by simp) (HB.out.alloc hsz1 _)
    | some ys =>
      have HF := Lib.hid hf
      rw [hf] at hok
      simp only [Option.isSome_some] at hok
      subst hok
      clear hf
      obtain rfl := HALL.out ys HF.out
      go_wp2
      go_ret2
      exact rf_mk (rf_ok H6.out HF.out) HO.out h255 HB.out

/-! ### fields, written -/
theorem longText_any (l : List UInt8) (w : World) (hl : l.length ≤ 4611686018427387904) : Calls Try.prog 125 #[sv l] w fun e w' => e = .returned (.bool (decide (300 < l.length))) ∧ w = w' := by
  have hsz : (bs l).size = l.length := by simp [ByteArray.size]
  by_cases h : 300 < l.length
  · go_enter Try.func125, Try.ntmps125
    go_wp2
    go_ret
    exact ⟨ret_b (by simp; try omega), rfl⟩
  · go_enter Try.func125, Try.ntmps125
    go_wp2
    go_ret
    exact ⟨ret_b (by simp; try omega), rfl⟩
def longB (x : List UInt8) : Bool := decide (300 < x.length)
theorem any_take_false {α : Type} {p : α → Bool} {xs : List α} {k : Nat} (h : k < xs.length) (ht : (xs.take k).any p = false) (hp : p xs[k] = false) : (xs.take (k + 1)).any p = false := by
  rw [List.take_succ_eq_append_getElem h, List.any_append, ht]
  simp [hp]
theorem any_at {α : Type} {p : α → Bool} {xs : List α} {k : Nat} (h : k < xs.length) (hp : p xs[k] = true) : xs.any p = true := by
  rw [List.any_eq_true]
  exact ⟨_, List.getElem_mem _, hp⟩
theorem any_all {α : Type} {p : α → Bool} {xs : List α} {k : Nat} (hk : xs.length ≤ k) (ht : (xs.take k).any p = false) : xs.any p = false := by rwa [List.take_of_length_le hk] at ht
set_option maxRecDepth 100000 in
theorem indexLong_any (A : Option Addr) (c : Nat) (xs : List (List UInt8)) (w : World) (hx : Rd w w.heap.size A (xs.map sv)) (hl : xs.length ≤ 4096) (hs : ∀ x ∈ xs, x.length ≤ 4611686018427387904) :
    Calls Try.prog 188 #[.slice A xs.length c, .func (.func 125) #[] #[]] w fun e w' => ∃ n : Int, e = .returned (.int .i64 n) ∧ decide (0 ≤ n) = xs.any longB ∧ w = w' := by
  generalize hr : xs.any longB = r
  have HR := Lib.hid hr
  have HX := Lib.hid hx
  have HS := Lib.hid hs
  clear hr hx hs
  go_enter Try.func188, Try.ntmps188
  go_wp2
  go_loop [8] (fun i => ∃ k : Nat, k ≤ xs.length ∧ i = .int .i64 k ∧ (xs.take k).any longB = false) (fun i => xs.length - (intOf i).toNat)
  case atStart => exact ⟨0, Nat.zero_le _, rfl, rfl⟩
  case round =>
    obtain ⟨k, hk, rfl, ht⟩ := hrel
    have HT := Lib.hid ht
    clear ht
    by_cases hlt : k < xs.length
    · obtain ⟨ad, rfl, _, hca⟩ := HX.out.at_ (map_at hlt)
      have hsl := HS.out _ (List.getElem_mem hlt)
      cases hd : decide (300 < xs[k].length) with
      | true =>
        have HD := Lib.hid hd
        clear hd
        go_wp2_with fail
        refine (longText_any xs[k] _ hsl).mono ?_
        rw [HD.out]
        rintro e w1 ⟨rfl, rfl⟩
        go_wp2_with fail
        go_ret
        exact ⟨k, rfl, by rw [← HR.out, any_at hlt (by unfold longB; exact HD.out)]; exact decide_eq_true (by omega), rfl⟩
      | false =>
        have HD := Lib.hid hd
        clear hd
        go_wp2_with fail
        refine (longText_any xs[k] _ hsl).mono ?_
        rw [HD.out]
        rintro e w1 ⟨rfl, rfl⟩
        go_wp2_with fail
        go_round
        case rel => exact ⟨k + 1, by omega, by go_num, any_take_false hlt HT.out (by unfold longB; exact HD.out)⟩
        case measure => simp [intOf]; omega
    · go_wp2
      go_ret
      exact ⟨-1, rfl, by rw [← HR.out, any_all (by omega) HT.out]; decide, rfl⟩
theorem containsLong_any (A : Option Addr) (c : Nat) (xs : List (List UInt8)) (w : World) (hx : Rd w w.heap.size A (xs.map sv)) (hl : xs.length ≤ 4096) (hs : ∀ x ∈ xs, x.length ≤ 4611686018427387904) :
    Calls Try.prog 112 #[.slice A xs.length c, .func (.func 125) #[] #[]] w fun e w' => e = .returned (.bool (xs.any longB)) ∧ w = w' := by
  have HX := Lib.hid hx
  have HS := Lib.hid hs
  clear hx hs
  go_enter Try.func112, Try.ntmps112
  go_wp2_with fail
  refine (indexLong_any A c xs _ HX.out hl HS.out).mono ?_
  rintro e w1 ⟨n, rfl, hn, rfl⟩
  have HN := Lib.hid hn
  clear hn
  by_cases h0 : 0 ≤ n
  · go_wp2_with fail
    go_ret
    exact ⟨ret_b (by rw [← HN.out]; try simp [h0]), rfl⟩
  · go_wp2_with fail
    go_ret
    exact ⟨ret_b (by rw [← HN.out]; try simp [h0]), rfl⟩
def fbM (xs : List (List UInt8)) : List UInt8 × Int := if 4096 < xs.length then ([], 2) else if 200 < xs.length then ([], 6) else if xs.any longB then ([], 4) else (fieldsB xs, 0)
def FBPost (xs : List (List UInt8)) (w : World) (e : Ending) (w' : World) : Prop := ∃ A c, e = .returned (.tuple #[.slice A (fbM xs).1.length c, .int .i64 (fbM xs).2]) ∧ Rd w' w'.heap.size A ((fbM xs).1.map bv) ∧ Below w.heap.size w w'
theorem fb_mk {xs : List (List UInt8)} {r : List UInt8 × Int} (hr : fbM xs = r) {w w' : World} {A : Option Addr} {c n : Nat} (hn : n = r.1.length) (hx : Rd w' w'.heap.size A (r.1.map bv)) (hb : Below w.heap.size w w') : FBPost xs w (.returned (.tuple #[.slice A n c, .int .i64 r.2])) w' := by
  subst hr hn
  exact ⟨A, c, rfl, hx, hb⟩
set_option maxRecDepth 100000 in
theorem implFieldsBytes_any (A : Option Addr) (c : Nat) (xs : List (List UInt8)) (w : World) (hx : Rd w w.heap.size A (xs.map sv)) (hl : xs.length ≤ 1048576) (hs : ∀ x ∈ xs, x.length ≤ 4194304) :
    Calls Try.prog 48 #[.slice A xs.length c] w (FBPost xs w) := by
  have HX := Lib.hid hx
  have HS := Lib.hid hs
  clear hx hs
  by_cases h1 : 4096 < xs.length
  · have HR : Hid (fbM xs = ([], 2)) := by show _ = _; simp [fbM, h1]
    go_enter Try.func48, Try.ntmps48
    go_wp2
    go_ret2
    exact fb_mk HR.out rfl (Rd.nil _ _ _) (Below.refl _ _)
  · by_cases h2 : 200 < xs.length
    · have HR : Hid (fbM xs = ([], 6)) := by show _ = _; simp [fbM, h1, h2]
      go_enter Try.func48, Try.ntmps48
      go_wp2
      go_ret2
      exact fb_mk HR.out rfl (Rd.nil _ _ _) (Below.refl _ _)
    · cases h3 : xs.any longB with
      | true =>
        have HR : Hid (fbM xs = ([], 4)) := by show _ = _; simp [fbM, h1, h2, h3]
        have H3 := Lib.hid h3
        clear h3
        go_enter Try.func48, Try.ntmps48
        go_wp2_with fail
        refine (containsLong_any A c xs _ HX.out (by omega) (fun x hx => by have := HS.out x hx; omega)).mono ?_
        rw [H3.out]
        rintro e w1 ⟨rfl, rfl⟩
        go_wp2_with fail
        go_ret2
        exact fb_mk HR.out rfl (Rd.nil _ _ _) (Below.refl _ _)
      | false =>
        have HR : Hid (fbM xs = (fieldsB xs, 0)) := by show _ = _; simp [fbM, h1, h2, h3]
        have H3 := Lib.hid h3
        clear h3
        go_enter Try.func48, Try.ntmps48
        go_wp2_with fail
        refine (containsLong_any A c xs _ HX.out (by omega) (fun x hx => by have := HS.out x hx; omega)).mono ?_
        rw [H3.out]
        rintro e w1 ⟨rfl, rfl⟩
        go_wp2_with fail
        refine (fields_bytes A c xs _ HX.out (by omega) HS.out).mono ?_
        rintro e w1 ⟨rfl, hb1⟩
        obtain ⟨g, cap, w2, hrun, hb2, rfl, _, hr2⟩ := conv_bytes_rd w1 (fieldsB xs)
        have HB := Lib.hid (below_after hb1 hb2)
        have HR2 := Lib.hid hr2
        clear hb1 hb2 hr2
        go_wp2_with fail
        go_ret2
        exact fb_mk HR.out rfl HR2.out HB.out
set_option maxRecDepth 100000 in
theorem specFieldsBytes_any (A : Option Addr) (c : Nat) (xs : List (List UInt8)) (w : World) (hx : Rd w w.heap.size A (xs.map sv)) (hl : xs.length ≤ 1048576) (hs : ∀ x ∈ xs, x.length ≤ 4194304) :
    Calls Try.prog 49 #[.slice A xs.length c] w (FBPost xs w) := by
  have HX := Lib.hid hx
  have HS := Lib.hid hs
  clear hx hs
  by_cases h1 : 4096 < xs.length
  · have HR : Hid (fbM xs = ([], 2)) := by show _ = _; simp [fbM, h1]
    go_enter Try.func49, Try.ntmps49
    go_wp2
    go_ret2
    exact fb_mk HR.out rfl (Rd.nil _ _ _) (by repeat (first | exact Below.refl _ _ | assumption | refine Below.drew ?_ | refine below_drewN ?_ _ | refine Below.setCell ?_ (by first | exact Nat.le_refl _ | exact Below.size (by assumption) | (simp; done) | (simp; omega) | omega) _ | refine Below.alloc ?_ (by first | exact Nat.le_refl _ | exact Below.size (by assumption) | (simp; done) | (simp; omega) | omega) _))
  · by_cases h2 : 200 < xs.length
    · have HR : Hid (fbM xs = ([], 6)) := by show _ = _; simp [fbM, h1, h2]
      go_enter Try.func49, Try.ntmps49
      go_wp2
      go_ret2
      exact fb_mk HR.out rfl (Rd.nil _ _ _) (by repeat (first | exact Below.refl _ _ | assumption | refine Below.drew ?_ | refine below_drewN ?_ _ | refine Below.setCell ?_ (by first | exact Nat.le_refl _ | exact Below.size (by assumption) | (simp; done) | (simp; omega) | omega) _ | refine Below.alloc ?_ (by first | exact Nat.le_refl _ | exact Below.size (by assumption) | (simp; done) | (simp; omega) | omega) _))
    · have HM := Lib.hid (show fbM xs = if xs.any longB then ([], 4) else (fieldsB xs, 0) by simp [fbM, h1, h2])
      go_enter Try.func49, Try.ntmps49
      go_wp2
      go_loop [4] (fun i => ∃ k : Nat, k ≤ xs.length ∧ i = .int .i64 k ∧ (xs.take k).any longB = false) (fun i => xs.length - (intOf i).toNat)
      case atStart => exact ⟨0, Nat.zero_le _, rfl, rfl⟩
      case round =>
        obtain ⟨k, hk, rfl, ht⟩ := hrel
        have HT := Lib.hid ht
        clear ht
        by_cases hlt : k < xs.length
        · obtain ⟨ad, rfl, _, hca⟩ := HX.out.at_ (map_at hlt)
          have hsl := HS.out _ (List.getElem_mem hlt)
          have hsz : (bs xs[k]).size = xs[k].length := by simp [ByteArray.size]
          by_cases hd : 300 < xs[k].length
          · have HD : Hid (longB xs[k] = true) := by show _ = _; simp [longB, hd]
            go_wp2
            go_ret2
            exact fb_mk (HM.out.trans (if_pos (any_at hlt HD.out))) rfl (Rd.nil _ _ _) (by repeat (first | exact Below.refl _ _ | assumption | refine Below.drew ?_ | refine below_drewN ?_ _ | refine Below.setCell ?_ (by first | exact Nat.le_refl _ | exact Below.size (by assumption) | (simp; done) | (simp; omega) | omega) _ | refine Below.alloc ?_ (by first | exact Nat.le_refl _ | exact Below.size (by assumption) | (simp; done) | (simp; omega) | omega) _))
          · have HD : Hid (longB xs[k] = false) := by show _ = _; simp [longB, hd]
            go_wp2
            go_round
            case rel => exact ⟨k + 1, by omega, by go_num, any_take_false hlt HT.out HD.out⟩
            case measure => simp [intOf]; omega
        · have HA := Lib.hid (any_all (by omega) HT.out)
          go_wp2_with fail
          refine (l01Fields_any A c xs _ HX.out (by omega) HS.out).mono ?_
          rintro e w1 ⟨v, rfl, ho, hb⟩
          obtain ⟨A2, c2, rfl, _⟩ := own_form ho
          have HO := Lib.hid (Rd.own ho)
          clear ho
          go_wp2_with fail
          go_ret2
          exact fb_mk (HM.out.trans (if_neg (by rw [HA.out]; decide))) rfl HO.out hb
end Go.Proofs.Ytlfnpnkpjdmonaa
