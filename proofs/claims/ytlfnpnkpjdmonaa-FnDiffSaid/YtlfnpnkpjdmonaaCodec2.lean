import Derived.Test.YtlfnpnkpjdmonaaCodec
set_option linter.unusedVariables false
set_option linter.unusedSimpArgs false
namespace Go.Proofs.Ytlfnpnkpjdmonaa
open Go.RowKit

/-! ### the reference's bytes of a number, of fields -/
theorem nb_back (n k j : Nat) (hj : j + 1 ≤ k) : nb (n / 256 ^ j) (k - j) = nb (n / 256 ^ (j + 1)) (k - (j + 1)) ++ [UInt8.ofNat (n / 256 ^ j % 256)] := by
  rw [show k - j = (k - (j + 1)) + 1 from by omega, nb, Nat.div_div_eq_div_mul, Nat.pow_succ]
theorem bv_nat (n : Nat) : bv (UInt8.ofNat (n % 256)) = .int .u8 ((n : Int) % 256) := by unfold bv; rw [u8_nat]
theorem shr_byte (n j : Nat) : (#[Value.int .u8 ((n : Int) / 2 ^ (8 * j) % 256)] : Array Value) = #[bv (UInt8.ofNat (n / 256 ^ j % 256))] := by
  rw [bv_nat]
  have e1 : (256 : Nat) ^ j = 2 ^ (8 * j) := by rw [Nat.pow_mul]
  have e2 : ((n / 256 ^ j : Nat) : Int) = (n : Int) / 2 ^ (8 * j) := by
    rw [e1, Int.natCast_ediv, Int.natCast_pow]
    rfl
  rw [e2]
set_option maxRecDepth 100000 in
theorem l01Number_any (n k : Nat) (w : World) (hn : n ≤ 4611686018427387904) (hk : k ≤ 8) :
    Calls Try.prog 200 #[.int .i64 n, .int .i64 k] w fun e w' => ∃ v, e = .returned v ∧ w'.ownsRow w.heap.size 5 1 v k ((nb n k).map bv) ∧ Below w.heap.size w w' := by
  have H0 : Hid ((w.alloc (.cells #[] 5)).ownsRow w.heap.size 5 1 (.slice (some ⟨w.heap.size, 0, none⟩) 0 0) 0 []) := own_empty_at (Nat.le_refl _) (heap_alloc_new _ _)
  go_enter Try.func200, Try.ntmps200
  go_wp2
  go_loopw [5, 6] (fun v i wr => ∃ j : Nat, j ≤ k ∧ i = .int .i64 ((j : Int) - 1) ∧ wr.ownsRow w.heap.size 5 1 v (k - j) ((nb (n / 256 ^ j) (k - j)).map bv) ∧ Below w.heap.size w wr) (fun _ i _ => (intOf i + 1).toNat)
  case atStart => exact ⟨k, Nat.le_refl _, rfl, by simpa [nb] using H0.out, by repeat (first | exact Below.refl _ _ | assumption | refine Below.drew ?_ | refine below_drewN ?_ _ | refine Below.setCell ?_ (by first | exact Nat.le_refl _ | exact Below.size (by assumption) | (simp; done) | (simp; omega) | omega) _ | refine Below.alloc ?_ (by first | exact Nat.le_refl _ | exact Below.size (by assumption) | (simp; done) | (simp; omega) | omega) _)⟩
  case round =>
    obtain ⟨j, hj, rfl, ho, hb⟩ := hrel
    have HO := Lib.hid ho
    clear ho H0
    have hsw := hb.size
    by_cases hlt : 0 < j
    · obtain ⟨j, rfl⟩ : ∃ m, j = m + 1 := ⟨j - 1, by omega⟩
      go_wp2_with (at_builtin; refine push_one elByte rfl _ _ rfl w.heap.size _ (k - (j + 1)) _ rfl HO.out [bv (UInt8.ofNat (n / 256 ^ j % 256))] _ ?c0 rfl rfl ?c1 (by simp only [maxLen]; omega) (by omega) hsw ?_)
      case c0 => exact shr_byte n j
      case c1 => simp [Value.oneCell']
      intro v2 w2 hp
      have hb2 := hp.below HO.out hb hsw
      have HP := Lib.hid hp.1
      clear hp
      go_wp2
      go_roundw
      case rel =>
        refine ⟨j, by omega, by go_num, ?_, hb2⟩
        have h := HP.out
        rw [nb_back n k j hj, List.map_append, show k - j = k - (j + 1) + 1 from by omega]
        exact h
      case measure => simp [intOf]
    · obtain rfl : j = 0 := by omega
      go_wp2
      go_ret
      exact ⟨_, rfl, by simpa using HO.out, hb⟩

theorem fb_snoc (xs : List (List UInt8)) (k : Nat) (c : UInt8) (h : k < xs.length) : c :: ((xs.take (k + 1)).flatMap fun x => nb x.length 2 ++ x) = (c :: (xs.take k).flatMap fun x => nb x.length 2 ++ x) ++ nb xs[k].length 2 ++ xs[k] := by
  rw [flatMap_take _ _ _ h]
  simp
set_option maxRecDepth 100000 in
theorem l01Fields_any (A : Option Addr) (c : Nat) (xs : List (List UInt8)) (w : World) (hx : Rd w w.heap.size A (xs.map sv)) (hl : xs.length ≤ 4096) (hs : ∀ x ∈ xs, x.length ≤ 4194304) :
    Calls Try.prog 127 #[.slice A xs.length c] w fun e w' => ∃ v, e = .returned v ∧ w'.ownsRow w.heap.size 5 1 v (fieldsB xs).length ((fieldsB xs).map bv) ∧ Below w.heap.size w w' := by
  have HX := Lib.hid hx
  have HS := Lib.hid hs
  clear hx hs
  have H0 : Hid ((w.alloc (.cells #[.int .u8 ((xs.length : Int) % 256)] 5)).ownsRow w.heap.size 5 1 (.slice (some ⟨w.heap.size, 0, none⟩) 1 1) 1 [bv (UInt8.ofNat (xs.length % 256))]) := by
    rw [bv_nat]
    exact World.ownsRow_lit w #[.int .u8 ((xs.length : Int) % 256)] 1 (Nat.le_refl _) (by simp only [maxLen]; omega) rfl
  go_enter Try.func127, Try.ntmps127
  go_wp2
  go_loopw [3, 4] (fun v i wr => ∃ k : Nat, k ≤ xs.length ∧ i = .int .i64 k ∧ wr.ownsRow w.heap.size 5 1 v (UInt8.ofNat (xs.length % 256) :: (xs.take k).flatMap fun x => nb x.length 2 ++ x).length ((UInt8.ofNat (xs.length % 256) :: (xs.take k).flatMap fun x => nb x.length 2 ++ x).map bv) ∧ Below w.heap.size w wr) (fun _ i _ => xs.length - (intOf i).toNat)
  case atStart => exact ⟨0, Nat.zero_le _, rfl, H0.out, by repeat (first | exact Below.refl _ _ | assumption | refine Below.drew ?_ | refine below_drewN ?_ _ | refine Below.setCell ?_ (by first | exact Nat.le_refl _ | exact Below.size (by assumption) | (simp; done) | (simp; omega) | omega) _ | refine Below.alloc ?_ (by first | exact Nat.le_refl _ | exact Below.size (by assumption) | (simp; done) | (simp; omega) | omega) _)⟩
  case round =>
    obtain ⟨k, hk, rfl, ho, hb⟩ := hrel
    clear H0
    have hsw := hb.size
    by_cases hlt : k < xs.length
    · obtain ⟨ad, rfl, hbl, hca0⟩ := HX.out.at_ (map_at hlt)
      have hca := (hb.cell (p := ad.add k) (by rw [add_block]; exact hbl)).trans hca0
      have hsl : xs[k].length ≤ 4194304 := HS.out _ (List.getElem_mem _)
      have hsz : (bs xs[k]).size = xs[k].length := by simp [ByteArray.size]
      have hfl := fb_len (xs.take k) 4194304 (fun x hx => HS.out x (List.mem_of_mem_take hx))
      have hfl2 : (xs.take k).length * (4194304 + 2) ≤ 4096 * (4194304 + 2) := Nat.mul_le_mul_right _ (by rw [List.length_take]; omega)
      have HSN := Lib.hid (fb_snoc xs k (UInt8.ofNat (xs.length % 256)) hlt)
      have hlen0 : (UInt8.ofNat (xs.length % 256) :: (xs.take k).flatMap fun x => nb x.length 2 ++ x).length ≤ 17184063489 := by
        rw [List.length_cons]; omega
      generalize hL : (UInt8.ofNat (xs.length % 256) :: (xs.take k).flatMap fun x => nb x.length 2 ++ x) = L at *
      have HO := Lib.hid ho
      clear hL ho hfl hfl2
      have hi0 : (0 : Int) ≤ (k : Int) := by omega
      have hi1 : (k : Int) < (xs.length : Int) := by omega
      go_wp2_with fail
      go_region_held3 (fun w' => w'.cell? (ad.add k) = some (.string (bs xs[k])) ∧ w.heap.size ≤ w'.heap.size)
        (refine ⟨?_, ?_⟩ <;> first | assumption | omega | (simp; omega) | (exact (hb4.cell (by rw [add_block]; exact hbl)).trans hca0) | (exact (hb3.cell (by rw [add_block]; exact hbl)).trans hca0) | (exact (HB2.out.cell (by rw [add_block]; exact hbl)).trans hca0))
        (first
          | (go_at_call 200; refine (l01Number_any xs[k].length 2 _ (by omega) (by omega)).mono ?_; rintro e w2 ⟨v2, rfl, ho2, hb2⟩; have hs2 : wr.heap.size ≤ w2.heap.size := (by have := hb2.size; simpa using this); obtain ⟨A2, c2, rfl, hc2⟩ := own_form ho2; have HO2 := Lib.hid ho2; clear ho2; have HOL := Lib.hid (own_below (HO.out.drew) hb2); have HB2 := Lib.hid (below_after hb.drew hb2))
          | (refine step_push_row elByte rfl _ _ rfl w.heap.size u3 L.length _ rfl HOL.out w2.heap.size A2 2 c2 _ rfl (Rd.own HO2.out) (by simp [nb_len]) (by simp [Value.oneCell']) (by simp only [maxLen]; omega) (by omega) (by omega) (fun h => by subst h; exact absurd (own_none HO2.out).1 (by decide)) ?_; intro v3 w3 hp3; have hb3 := hp3.below HOL.out HB2.out (by omega); have hs3 : w2.heap.size ≤ w3.heap.size := hp3.2.size)
          | (refine step_push_str elByte zeroByte Try.underlying9 rfl _ _ rfl w.heap.size v3 (L.length + 2) _ rfl hp3.1 xs[k] rfl (by simp only [maxLen]; omega) (by omega) (by omega) ?_; intro v4 w4 hp4; have hb4 := hp4.below hp3.1 hb3 (by omega); have hs4 : w3.heap.size ≤ w4.heap.size := hp4.2.size))
      have HP4 := Lib.hid hp4.1
      clear hp4 hp3
      go_wp2_with fail
      go_roundw
      case rel =>
        refine ⟨k + 1, by omega, by go_num, ?_, hb4⟩
        rw [HSN.out]
        have h := HP4.out
        rw [List.length_append, List.length_append, nb_len, List.map_append, List.map_append]
        exact h
      case measure => simp [intOf]; omega
    · go_wp2
      go_ret
      have h := ho
      rw [List.take_of_length_le (by omega)] at h
      exact ⟨_, rfl, h, hb⟩
end Go.Proofs.Ytlfnpnkpjdmonaa
