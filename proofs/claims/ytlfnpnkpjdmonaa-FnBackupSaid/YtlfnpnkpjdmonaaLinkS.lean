import Derived.Test.YtlfnpnkpjdmonaaBkOK
import Derived.Test.YtlfnpnkpjdmonaaSbkOK
import Derived.Test.YtlfnpnkpjdmonaaRead
import Derived.Test.YtlfnpnkpjdmonaaCut
set_option linter.unusedVariables false
set_option linter.unusedSimpArgs false
namespace Go.Proofs.Ytlfnpnkpjdmonaa
open Go.RowKit

/-! ### the reference: a backup's link -/
theorem bv_one (l : List UInt8) : ∀ u ∈ l.map bv, u.oneCell' = true := fun u hu => by
  obtain ⟨c, _, rfl⟩ := List.mem_map.1 hu
  rfl
theorem l01F2 (x y : ByteArray) (b : Nat) (w : World) (hx : Rd w w.heap.size (some ⟨b, 0, none⟩) [.string x, .string y]) (h1 : x.size ≤ 4194304) (h2 : y.size ≤ 4194304) :
    Calls Try.prog 127 #[.slice (some ⟨b, 0, none⟩) 2 2] w fun e w' => ∃ v, e = .returned v ∧ w'.ownsRow w.heap.size 5 1 v (namesF x y).length ((namesF x y).map bv) ∧ Below w.heap.size w w' :=
  l01Fields_any (some ⟨b, 0, none⟩) 2 [x.toList, y.toList] w (by simpa [sv, bs_of] using hx) (by simp) (by
    intro z hz
    simp only [List.mem_cons, List.not_mem_nil, or_false] at hz
    rcases hz with rfl | rfl <;> rw [len_of] <;> assumption)
theorem l01F3 (x y z : ByteArray) (b : Nat) (w : World) (hx : Rd w w.heap.size (some ⟨b, 0, none⟩) [.string x, .string y, .string z]) (h1 : x.size ≤ 4194304) (h2 : y.size ≤ 4194304) (h3 : z.size ≤ 4194304) :
    Calls Try.prog 127 #[.slice (some ⟨b, 0, none⟩) 3 3] w fun e w' => ∃ v, e = .returned v ∧ w'.ownsRow w.heap.size 5 1 v (fieldsB [x.toList, y.toList, z.toList]).length ((fieldsB [x.toList, y.toList, z.toList]).map bv) ∧ Below w.heap.size w w' :=
  l01Fields_any (some ⟨b, 0, none⟩) 3 [x.toList, y.toList, z.toList] w (by simpa [sv, bs_of] using hx) (by simp) (by
    intro v hv
    simp only [List.mem_cons, List.not_mem_nil, or_false] at hv
    rcases hv with rfl | rfl | rfl <;> rw [len_of] <;> assumption)
theorem l01Bit_any (b : Bool) (w : World) : Calls Try.prog 245 #[.bool b] w fun e w' => e = .returned (.int .i64 (if b then 1 else 0)) ∧ w = w' := by
  cases b
  all_goals
    go_enter Try.func245, Try.ntmps245
    go_wp2_with fail
    go_ret
    exact ⟨rfl, rfl⟩
theorem own_nilcap {w : World} {base e size n : Nat} {A : Option Addr} {c : Nat} {xs : List Value} (h : w.ownsRow base e size (.slice A n c) n xs) : A = none → n = 0 ∧ c = 0 := fun hA => by
  rcases h.2 with ⟨hv, hn⟩ | ⟨g, cap, cur, hv, _⟩
  · injection hv with _ _ hc; exact ⟨hn, hc⟩
  · injection hv with hA' _ _; rw [hA] at hA'; cases hA'
theorem pushed_own {w w' : World} {base e size n : Nat} {v v' : Value} {l m : List UInt8} (h : Pushed base e size v n (l.map bv ++ m.map bv) w v' w') (hn : n = (l ++ m).length) : w'.ownsRow base e size v' (l ++ m).length ((l ++ m).map bv) := by
  rw [List.map_append, ← hn]; exact h.1
theorem own_new1 (w : World) (v : Value) (T base : Nat) (hb : base ≤ w.heap.size) : (w.alloc (.cells #[v] T)).ownsRow base T 1 (.slice (some ⟨w.heap.size, 0, none⟩) 1 1) 1 [v] :=
  ⟨rfl, .inr ⟨w.heap.size, 1, #[v], rfl, hb, heap_alloc_new _ _, Nat.le_refl _, by simp only [maxLen]; omega, rfl, rfl⟩⟩
def BytesMade (l : List UInt8) (w : World) (e : Ending) (w' : World) : Prop := ∃ v, e = .returned v ∧ w'.ownsRow w.heap.size 5 1 v l.length (l.map bv) ∧ Below w.heap.size w w'
set_option maxRecDepth 100000 in
set_option maxHeartbeats 4000000 in
theorem l06Diff_any (d : Df) (w : World) (hd : DOk d) : Calls Try.prog 215 #[dfV d] w (BytesMade (diffF d) w) := by
  obtain ⟨key, old, new, had, has⟩ := d
  have hk1 : key.size ≤ 4194304 := by have : key.size ≤ 30 := withinB_le hd.key; omega
  have hk2 : old.size ≤ 4194304 := by have : old.size ≤ 90 := hd.old; omega
  have hk3 : new.size ≤ 4194304 := by have : new.size ≤ 90 := hd.new; omega
  have hone := hd.one
  have hfl : (fieldsB [key.toList, old.toList, new.toList]).length ≤ 217 := by
    have h := diffF_len hd
    have e : (diffF ⟨key, old, new, had, has⟩).length = 1 + (fieldsB [key.toList, old.toList, new.toList]).length := by rw [diffF, List.length_append, nb_len]
    omega
  generalize hF : fieldsB [key.toList, old.toList, new.toList] = F at hfl
  have HF := Lib.hid hF
  have HW : Hid (∀ w' : World, Below (w.heap.size + 1) (w.alloc (.cells #[.string key, .string old, .string new, .bool had, .bool has] 145)) w' → w'.cell? ⟨w.heap.size, 0, none⟩ = some (.string key) ∧ w'.cell? ⟨w.heap.size, 1, none⟩ = some (.string old) ∧ w'.cell? ⟨w.heap.size, 2, none⟩ = some (.string new) ∧ w'.cell? ⟨w.heap.size, 3, none⟩ = some (.bool had) ∧ w'.cell? ⟨w.heap.size, 4, none⟩ = some (.bool has)) := fun w' hb => by
    have hn : w'.heap[w.heap.size]? = some (.cells #[.string key, .string old, .string new, .bool had, .bool has] 145 (0, 0)) := (hb.block _ (Nat.lt_succ_self _)).trans (heap_alloc_new _ _)
    exact ⟨by rw [cell_of_row w' _ 0 _ _ _ hn]; rfl, by rw [cell_of_row w' _ 1 _ _ _ hn]; rfl, by rw [cell_of_row w' _ 2 _ _ _ hn]; rfl, by rw [cell_of_row w' _ 3 _ _ _ hn]; rfl, by rw [cell_of_row w' _ 4 _ _ _ hn]; rfl⟩
  clear hd hF
  cases had <;> cases has
  · simp at hone
  · have HL : Hid (diffF ⟨key, old, new, false, true⟩ = [UInt8.ofNat 2] ++ F) := by
      show _ = _
      rw [diffF, HF.out]
      rfl
    rw [HL.out]
    have hsz1 : (w.alloc (.cells #[.string key, .string old, .string new, .bool false, .bool true] 145)).heap.size = w.heap.size + 1 := by simp
    have w0 : IntKind.i64.wrap 0 = 0 := by decide
    have w1 : IntKind.i64.wrap 1 = 1 := by decide
    have w2' : IntKind.i64.wrap 2 = 2 := by decide
    have w3 : IntKind.i64.wrap 3 = 3 := by decide
    have u1 : IntKind.u8.wrap 2 = 2 := by decide
    go_enter Try.func215, Try.ntmps215
    go_wp2_with fail
    go_region_held3 (fun w' => w'.cell? ⟨w.heap.size, 0, none⟩ = some (.string key) ∧ w'.cell? ⟨w.heap.size, 1, none⟩ = some (.string old) ∧ w'.cell? ⟨w.heap.size, 2, none⟩ = some (.string new) ∧ w'.cell? ⟨w.heap.size, 3, none⟩ = some (.bool false) ∧ w'.cell? ⟨w.heap.size, 4, none⟩ = some (.bool true))
      ((refine HW.out _ ?_; first | exact hbP | exact hbF | (repeat (first | exact Below.refl _ _ | assumption | refine Below.drew ?_ | refine below_drewN ?_ _ | refine Below.setCell ?_ (by first | exact Nat.le_refl _ | exact Below.size (by assumption) | (simp; done) | (simp; omega) | omega) _ | refine Below.alloc ?_ (by first | exact Nat.le_refl _ | exact Below.size (by assumption) | (simp; done) | (simp; omega) | omega) _))))
      (first
        | (refine step_push_row elByte rfl _ _ rfl w.heap.size _ 1 [bv (UInt8.ofNat 2)] rfl (by first | exact own_below HO12.out (by (repeat (first | exact Below.refl _ _ | assumption | refine Below.drew ?_ | refine below_drewN ?_ _ | refine Below.setCell ?_ (by first | exact Nat.le_refl _ | exact Below.size (by assumption) | (simp; done) | (simp; omega) | omega) _ | refine Below.alloc ?_ (by first | exact Nat.le_refl _ | exact Below.size (by assumption) | (simp; done) | (simp; omega) | omega) _)); first | done | fail) | (have h := own_new1 w20 (bv (UInt8.ofNat 2)) 5 w.heap.size (by have := hbF.size; omega); exact h)) _ A20 F.length c20 (F.map bv) rfl (by first | exact Rd.own HO20.out | exact Rd.own (own_below HO20.out (by (repeat (first | exact Below.refl _ _ | assumption | refine Below.drew ?_ | refine below_drewN ?_ _ | refine Below.setCell ?_ (by first | exact Nat.le_refl _ | exact Below.size (by assumption) | (simp; done) | (simp; omega) | omega) _ | refine Below.alloc ?_ (by first | exact Nat.le_refl _ | exact Below.size (by assumption) | (simp; done) | (simp; omega) | omega) _)); first | done | fail))) (by simp) (bv_one _) (by simp only [maxLen]; omega) (by omega) (by have := hbF.size; first | omega | (simp; omega)) (own_nilcap HO20.out) ?_; intro v21 w21 hp21; have hbP : Below (w.heap.size + 1) (w.alloc (.cells #[.string key, .string old, .string new, .bool false, .bool true] 145)) w21 := Below.grown (show Below (w.heap.size + 1) (w.alloc (.cells #[.string key, .string old, .string new, .bool false, .bool true] 145)) _ by first | exact hbF | exact hbF.drew | exact Below.trans hbF (by (repeat (first | exact Below.refl _ _ | assumption | refine Below.drew ?_ | refine below_drewN ?_ _ | refine Below.setCell ?_ (by first | exact Nat.le_refl _ | exact Below.size (by assumption) | (simp; done) | (simp; omega) | omega) _ | refine Below.alloc ?_ (by first | exact Nat.le_refl _ | exact Below.size (by assumption) | (simp; done) | (simp; omega) | omega) _)); first | done | fail)) hp21.2 (by have := hbF.size; first | omega | (simp; omega)) (fun k hk => by have := hbF.size; injection hk with hk; first | omega | (simp at hk; omega)))
        | (go_at_call 245; first | ((with_reducible refine (l01Bit_any true _).mono ?_); rintro e w2 ⟨rfl, rfl⟩) | ((with_reducible refine (l01Bit_any false _).mono ?_); rintro e w2 ⟨rfl, rfl⟩))
        | (go_at_call 127; refine (l01F3 key old new _ _ (by first | exact rd_alloc _ _ _ _ _ rfl rfl | exact rd_alloc _ _ _ _ _ (by simp) rfl | exact Rd.next (rd_alloc (w.alloc (.cells #[.string key, .string old, .string new, .bool false, .bool true] 145)) [.string key, .string old, .string new] #[.string key, .string old, .string new] 9 (w.heap.size + 1) hsz1.symm rfl) (by repeat (first | exact Below.refl _ _ | assumption | refine Below.drew ?_ | refine below_drewN ?_ _ | refine Below.setCell ?_ (by first | exact Nat.le_refl _ | exact Below.size (by assumption) | (simp; done) | (simp; omega) | omega) _ | refine Below.alloc ?_ (by first | exact Nat.le_refl _ | exact Below.size (by assumption) | (simp; done) | (simp; omega) | omega) _))) hk1 hk2 hk3).mono ?_; rw [HF.out]; rintro e w20 ⟨v20, rfl, ho20, hb20⟩; obtain ⟨A20, c20, rfl, _⟩ := own_form ho20; have hbF : Below (w.heap.size + 1) (w.alloc (.cells #[.string key, .string old, .string new, .bool false, .bool true] 145)) w20 := Below.trans (by repeat (first | exact Below.refl _ _ | assumption | refine Below.drew ?_ | refine below_drewN ?_ _ | refine Below.setCell ?_ (by first | exact Nat.le_refl _ | exact Below.size (by assumption) | (simp; done) | (simp; omega) | omega) _ | refine Below.alloc ?_ (by first | exact Nat.le_refl _ | exact Below.size (by assumption) | (simp; done) | (simp; omega) | omega) _)) (hb20.mono (by first | omega | (simp; done) | (simp; omega))); have hsF : w.heap.size + 1 ≤ w20.heap.size := Nat.le_trans (Nat.le_of_eq hsz1.symm) hbF.size; have HO20 := Lib.hid ho20; first | (have HO12 : Hid (w20.ownsRow w.heap.size 5 1 (.slice (some ⟨w.heap.size + 1, 0, none⟩) 1 1) 1 [bv (UInt8.ofNat 2)]) := own_below (own_below (by have h := own_new1 (w.alloc (.cells #[.string key, .string old, .string new, .bool false, .bool true] 145)) (bv (UInt8.ofNat 2)) 5 w.heap.size (by simp); rw [hsz1] at h; exact h) (by (repeat (first | exact Below.refl _ _ | assumption | refine Below.drew ?_ | refine below_drewN ?_ _ | refine Below.setCell ?_ (by first | exact Nat.le_refl _ | exact Below.size (by assumption) | (simp; done) | (simp; omega) | omega) _ | refine Below.alloc ?_ (by first | exact Nat.le_refl _ | exact Below.size (by assumption) | (simp; done) | (simp; omega) | omega) _)); first | done | fail)) hb20) | (have HO12 : Hid (w20.ownsRow w.heap.size 5 1 (.slice (some ⟨w.heap.size + 1 + 1, 0, none⟩) 1 1) 1 [bv (UInt8.ofNat 2)]) := own_below (own_below (by have h := own_new1 ((w.alloc (.cells #[.string key, .string old, .string new, .bool false, .bool true] 145)).alloc (.cells #[.string key, .string old, .string new] 9)) (bv (UInt8.ofNat 2)) 5 w.heap.size (by simp; omega); rw [World.size_alloc, hsz1] at h; exact h) (by (repeat (first | exact Below.refl _ _ | assumption | refine Below.drew ?_ | refine below_drewN ?_ _ | refine Below.setCell ?_ (by first | exact Nat.le_refl _ | exact Below.size (by assumption) | (simp; done) | (simp; omega) | omega) _ | refine Below.alloc ?_ (by first | exact Nat.le_refl _ | exact Below.size (by assumption) | (simp; done) | (simp; omega) | omega) _)); first | done | fail)) hb20) | skip; clear ho20 hb20)
        | fail)
    all_goals
      go_wp2_with fail
      go_ret
      exact ⟨_, rfl, (by have e : 1 + F.length = (UInt8.ofNat 2 :: F).length := Nat.add_comm _ _; rw [← e]; exact hp21.1), Below.trans (show Below w.heap.size w (w.alloc (.cells #[.string key, .string old, .string new, .bool false, .bool true] 145)) by repeat (first | exact Below.refl _ _ | assumption | refine Below.drew ?_ | refine below_drewN ?_ _ | refine Below.setCell ?_ (by first | exact Nat.le_refl _ | exact Below.size (by assumption) | (simp; done) | (simp; omega) | omega) _ | refine Below.alloc ?_ (by first | exact Nat.le_refl _ | exact Below.size (by assumption) | (simp; done) | (simp; omega) | omega) _)) (hbP.mono (Nat.le_succ _))⟩
  · have HL : Hid (diffF ⟨key, old, new, true, false⟩ = [UInt8.ofNat 1] ++ F) := by
      show _ = _
      rw [diffF, HF.out]
      rfl
    rw [HL.out]
    have hsz1 : (w.alloc (.cells #[.string key, .string old, .string new, .bool true, .bool false] 145)).heap.size = w.heap.size + 1 := by simp
    have w0 : IntKind.i64.wrap 0 = 0 := by decide
    have w1 : IntKind.i64.wrap 1 = 1 := by decide
    have w2' : IntKind.i64.wrap 2 = 2 := by decide
    have w3 : IntKind.i64.wrap 3 = 3 := by decide
    have u1 : IntKind.u8.wrap 1 = 1 := by decide
    go_enter Try.func215, Try.ntmps215
    go_wp2_with fail
    go_region_held3 (fun w' => w'.cell? ⟨w.heap.size, 0, none⟩ = some (.string key) ∧ w'.cell? ⟨w.heap.size, 1, none⟩ = some (.string old) ∧ w'.cell? ⟨w.heap.size, 2, none⟩ = some (.string new) ∧ w'.cell? ⟨w.heap.size, 3, none⟩ = some (.bool true) ∧ w'.cell? ⟨w.heap.size, 4, none⟩ = some (.bool false))
      ((refine HW.out _ ?_; first | exact hbP | exact hbF | (repeat (first | exact Below.refl _ _ | assumption | refine Below.drew ?_ | refine below_drewN ?_ _ | refine Below.setCell ?_ (by first | exact Nat.le_refl _ | exact Below.size (by assumption) | (simp; done) | (simp; omega) | omega) _ | refine Below.alloc ?_ (by first | exact Nat.le_refl _ | exact Below.size (by assumption) | (simp; done) | (simp; omega) | omega) _))))
      (first
        | (refine step_push_row elByte rfl _ _ rfl w.heap.size _ 1 [bv (UInt8.ofNat 1)] rfl (by first | exact own_below HO12.out (by (repeat (first | exact Below.refl _ _ | assumption | refine Below.drew ?_ | refine below_drewN ?_ _ | refine Below.setCell ?_ (by first | exact Nat.le_refl _ | exact Below.size (by assumption) | (simp; done) | (simp; omega) | omega) _ | refine Below.alloc ?_ (by first | exact Nat.le_refl _ | exact Below.size (by assumption) | (simp; done) | (simp; omega) | omega) _)); first | done | fail) | (have h := own_new1 w20 (bv (UInt8.ofNat 1)) 5 w.heap.size (by have := hbF.size; omega); exact h)) _ A20 F.length c20 (F.map bv) rfl (by first | exact Rd.own HO20.out | exact Rd.own (own_below HO20.out (by (repeat (first | exact Below.refl _ _ | assumption | refine Below.drew ?_ | refine below_drewN ?_ _ | refine Below.setCell ?_ (by first | exact Nat.le_refl _ | exact Below.size (by assumption) | (simp; done) | (simp; omega) | omega) _ | refine Below.alloc ?_ (by first | exact Nat.le_refl _ | exact Below.size (by assumption) | (simp; done) | (simp; omega) | omega) _)); first | done | fail))) (by simp) (bv_one _) (by simp only [maxLen]; omega) (by omega) (by have := hbF.size; first | omega | (simp; omega)) (own_nilcap HO20.out) ?_; intro v21 w21 hp21; have hbP : Below (w.heap.size + 1) (w.alloc (.cells #[.string key, .string old, .string new, .bool true, .bool false] 145)) w21 := Below.grown (show Below (w.heap.size + 1) (w.alloc (.cells #[.string key, .string old, .string new, .bool true, .bool false] 145)) _ by first | exact hbF | exact hbF.drew | exact Below.trans hbF (by (repeat (first | exact Below.refl _ _ | assumption | refine Below.drew ?_ | refine below_drewN ?_ _ | refine Below.setCell ?_ (by first | exact Nat.le_refl _ | exact Below.size (by assumption) | (simp; done) | (simp; omega) | omega) _ | refine Below.alloc ?_ (by first | exact Nat.le_refl _ | exact Below.size (by assumption) | (simp; done) | (simp; omega) | omega) _)); first | done | fail)) hp21.2 (by have := hbF.size; first | omega | (simp; omega)) (fun k hk => by have := hbF.size; injection hk with hk; first | omega | (simp at hk; omega)))
        | (go_at_call 245; first | ((with_reducible refine (l01Bit_any true _).mono ?_); rintro e w2 ⟨rfl, rfl⟩) | ((with_reducible refine (l01Bit_any false _).mono ?_); rintro e w2 ⟨rfl, rfl⟩))
        | (go_at_call 127; refine (l01F3 key old new _ _ (by first | exact rd_alloc _ _ _ _ _ rfl rfl | exact rd_alloc _ _ _ _ _ (by simp) rfl | exact Rd.next (rd_alloc (w.alloc (.cells #[.string key, .string old, .string new, .bool true, .bool false] 145)) [.string key, .string old, .string new] #[.string key, .string old, .string new] 9 (w.heap.size + 1) hsz1.symm rfl) (by repeat (first | exact Below.refl _ _ | assumption | refine Below.drew ?_ | refine below_drewN ?_ _ | refine Below.setCell ?_ (by first | exact Nat.le_refl _ | exact Below.size (by assumption) | (simp; done) | (simp; omega) | omega) _ | refine Below.alloc ?_ (by first | exact Nat.le_refl _ | exact Below.size (by assumption) | (simp; done) | (simp; omega) | omega) _))) hk1 hk2 hk3).mono ?_; rw [HF.out]; rintro e w20 ⟨v20, rfl, ho20, hb20⟩; obtain ⟨A20, c20, rfl, _⟩ := own_form ho20; have hbF : Below (w.heap.size + 1) (w.alloc (.cells #[.string key, .string old, .string new, .bool true, .bool false] 145)) w20 := Below.trans (by repeat (first | exact Below.refl _ _ | assumption | refine Below.drew ?_ | refine below_drewN ?_ _ | refine Below.setCell ?_ (by first | exact Nat.le_refl _ | exact Below.size (by assumption) | (simp; done) | (simp; omega) | omega) _ | refine Below.alloc ?_ (by first | exact Nat.le_refl _ | exact Below.size (by assumption) | (simp; done) | (simp; omega) | omega) _)) (hb20.mono (by first | omega | (simp; done) | (simp; omega))); have hsF : w.heap.size + 1 ≤ w20.heap.size := Nat.le_trans (Nat.le_of_eq hsz1.symm) hbF.size; have HO20 := Lib.hid ho20; first | (have HO12 : Hid (w20.ownsRow w.heap.size 5 1 (.slice (some ⟨w.heap.size + 1, 0, none⟩) 1 1) 1 [bv (UInt8.ofNat 1)]) := own_below (own_below (by have h := own_new1 (w.alloc (.cells #[.string key, .string old, .string new, .bool true, .bool false] 145)) (bv (UInt8.ofNat 1)) 5 w.heap.size (by simp); rw [hsz1] at h; exact h) (by (repeat (first | exact Below.refl _ _ | assumption | refine Below.drew ?_ | refine below_drewN ?_ _ | refine Below.setCell ?_ (by first | exact Nat.le_refl _ | exact Below.size (by assumption) | (simp; done) | (simp; omega) | omega) _ | refine Below.alloc ?_ (by first | exact Nat.le_refl _ | exact Below.size (by assumption) | (simp; done) | (simp; omega) | omega) _)); first | done | fail)) hb20) | (have HO12 : Hid (w20.ownsRow w.heap.size 5 1 (.slice (some ⟨w.heap.size + 1 + 1, 0, none⟩) 1 1) 1 [bv (UInt8.ofNat 1)]) := own_below (own_below (by have h := own_new1 ((w.alloc (.cells #[.string key, .string old, .string new, .bool true, .bool false] 145)).alloc (.cells #[.string key, .string old, .string new] 9)) (bv (UInt8.ofNat 1)) 5 w.heap.size (by simp; omega); rw [World.size_alloc, hsz1] at h; exact h) (by (repeat (first | exact Below.refl _ _ | assumption | refine Below.drew ?_ | refine below_drewN ?_ _ | refine Below.setCell ?_ (by first | exact Nat.le_refl _ | exact Below.size (by assumption) | (simp; done) | (simp; omega) | omega) _ | refine Below.alloc ?_ (by first | exact Nat.le_refl _ | exact Below.size (by assumption) | (simp; done) | (simp; omega) | omega) _)); first | done | fail)) hb20) | skip; clear ho20 hb20)
        | fail)
    all_goals
      go_wp2_with fail
      go_ret
      exact ⟨_, rfl, (by have e : 1 + F.length = (UInt8.ofNat 1 :: F).length := Nat.add_comm _ _; rw [← e]; exact hp21.1), Below.trans (show Below w.heap.size w (w.alloc (.cells #[.string key, .string old, .string new, .bool true, .bool false] 145)) by repeat (first | exact Below.refl _ _ | assumption | refine Below.drew ?_ | refine below_drewN ?_ _ | refine Below.setCell ?_ (by first | exact Nat.le_refl _ | exact Below.size (by assumption) | (simp; done) | (simp; omega) | omega) _ | refine Below.alloc ?_ (by first | exact Nat.le_refl _ | exact Below.size (by assumption) | (simp; done) | (simp; omega) | omega) _)) (hbP.mono (Nat.le_succ _))⟩
  · have HL : Hid (diffF ⟨key, old, new, true, true⟩ = [UInt8.ofNat 3] ++ F) := by
      show _ = _
      rw [diffF, HF.out]
      rfl
    rw [HL.out]
    have hsz1 : (w.alloc (.cells #[.string key, .string old, .string new, .bool true, .bool true] 145)).heap.size = w.heap.size + 1 := by simp
    have w0 : IntKind.i64.wrap 0 = 0 := by decide
    have w1 : IntKind.i64.wrap 1 = 1 := by decide
    have w2' : IntKind.i64.wrap 2 = 2 := by decide
    have w3 : IntKind.i64.wrap 3 = 3 := by decide
    have u1 : IntKind.u8.wrap 3 = 3 := by decide
    go_enter Try.func215, Try.ntmps215
    go_wp2_with fail
    go_region_held3 (fun w' => w'.cell? ⟨w.heap.size, 0, none⟩ = some (.string key) ∧ w'.cell? ⟨w.heap.size, 1, none⟩ = some (.string old) ∧ w'.cell? ⟨w.heap.size, 2, none⟩ = some (.string new) ∧ w'.cell? ⟨w.heap.size, 3, none⟩ = some (.bool true) ∧ w'.cell? ⟨w.heap.size, 4, none⟩ = some (.bool true))
      ((refine HW.out _ ?_; first | exact hbP | exact hbF | (repeat (first | exact Below.refl _ _ | assumption | refine Below.drew ?_ | refine below_drewN ?_ _ | refine Below.setCell ?_ (by first | exact Nat.le_refl _ | exact Below.size (by assumption) | (simp; done) | (simp; omega) | omega) _ | refine Below.alloc ?_ (by first | exact Nat.le_refl _ | exact Below.size (by assumption) | (simp; done) | (simp; omega) | omega) _))))
      (first
        | (refine step_push_row elByte rfl _ _ rfl w.heap.size _ 1 [bv (UInt8.ofNat 3)] rfl (by first | exact own_below HO12.out (by (repeat (first | exact Below.refl _ _ | assumption | refine Below.drew ?_ | refine below_drewN ?_ _ | refine Below.setCell ?_ (by first | exact Nat.le_refl _ | exact Below.size (by assumption) | (simp; done) | (simp; omega) | omega) _ | refine Below.alloc ?_ (by first | exact Nat.le_refl _ | exact Below.size (by assumption) | (simp; done) | (simp; omega) | omega) _)); first | done | fail) | (have h := own_new1 w20 (bv (UInt8.ofNat 3)) 5 w.heap.size (by have := hbF.size; omega); exact h)) _ A20 F.length c20 (F.map bv) rfl (by first | exact Rd.own HO20.out | exact Rd.own (own_below HO20.out (by (repeat (first | exact Below.refl _ _ | assumption | refine Below.drew ?_ | refine below_drewN ?_ _ | refine Below.setCell ?_ (by first | exact Nat.le_refl _ | exact Below.size (by assumption) | (simp; done) | (simp; omega) | omega) _ | refine Below.alloc ?_ (by first | exact Nat.le_refl _ | exact Below.size (by assumption) | (simp; done) | (simp; omega) | omega) _)); first | done | fail))) (by simp) (bv_one _) (by simp only [maxLen]; omega) (by omega) (by have := hbF.size; first | omega | (simp; omega)) (own_nilcap HO20.out) ?_; intro v21 w21 hp21; have hbP : Below (w.heap.size + 1) (w.alloc (.cells #[.string key, .string old, .string new, .bool true, .bool true] 145)) w21 := Below.grown (show Below (w.heap.size + 1) (w.alloc (.cells #[.string key, .string old, .string new, .bool true, .bool true] 145)) _ by first | exact hbF | exact hbF.drew | exact Below.trans hbF (by (repeat (first | exact Below.refl _ _ | assumption | refine Below.drew ?_ | refine below_drewN ?_ _ | refine Below.setCell ?_ (by first | exact Nat.le_refl _ | exact Below.size (by assumption) | (simp; done) | (simp; omega) | omega) _ | refine Below.alloc ?_ (by first | exact Nat.le_refl _ | exact Below.size (by assumption) | (simp; done) | (simp; omega) | omega) _)); first | done | fail)) hp21.2 (by have := hbF.size; first | omega | (simp; omega)) (fun k hk => by have := hbF.size; injection hk with hk; first | omega | (simp at hk; omega)))
        | (go_at_call 245; first | ((with_reducible refine (l01Bit_any true _).mono ?_); rintro e w2 ⟨rfl, rfl⟩) | ((with_reducible refine (l01Bit_any false _).mono ?_); rintro e w2 ⟨rfl, rfl⟩))
        | (go_at_call 127; refine (l01F3 key old new _ _ (by first | exact rd_alloc _ _ _ _ _ rfl rfl | exact rd_alloc _ _ _ _ _ (by simp) rfl | exact Rd.next (rd_alloc (w.alloc (.cells #[.string key, .string old, .string new, .bool true, .bool true] 145)) [.string key, .string old, .string new] #[.string key, .string old, .string new] 9 (w.heap.size + 1) hsz1.symm rfl) (by repeat (first | exact Below.refl _ _ | assumption | refine Below.drew ?_ | refine below_drewN ?_ _ | refine Below.setCell ?_ (by first | exact Nat.le_refl _ | exact Below.size (by assumption) | (simp; done) | (simp; omega) | omega) _ | refine Below.alloc ?_ (by first | exact Nat.le_refl _ | exact Below.size (by assumption) | (simp; done) | (simp; omega) | omega) _))) hk1 hk2 hk3).mono ?_; rw [HF.out]; rintro e w20 ⟨v20, rfl, ho20, hb20⟩; obtain ⟨A20, c20, rfl, _⟩ := own_form ho20; have hbF : Below (w.heap.size + 1) (w.alloc (.cells #[.string key, .string old, .string new, .bool true, .bool true] 145)) w20 := Below.trans (by repeat (first | exact Below.refl _ _ | assumption | refine Below.drew ?_ | refine below_drewN ?_ _ | refine Below.setCell ?_ (by first | exact Nat.le_refl _ | exact Below.size (by assumption) | (simp; done) | (simp; omega) | omega) _ | refine Below.alloc ?_ (by first | exact Nat.le_refl _ | exact Below.size (by assumption) | (simp; done) | (simp; omega) | omega) _)) (hb20.mono (by first | omega | (simp; done) | (simp; omega))); have hsF : w.heap.size + 1 ≤ w20.heap.size := Nat.le_trans (Nat.le_of_eq hsz1.symm) hbF.size; have HO20 := Lib.hid ho20; first | (have HO12 : Hid (w20.ownsRow w.heap.size 5 1 (.slice (some ⟨w.heap.size + 1, 0, none⟩) 1 1) 1 [bv (UInt8.ofNat 3)]) := own_below (own_below (by have h := own_new1 (w.alloc (.cells #[.string key, .string old, .string new, .bool true, .bool true] 145)) (bv (UInt8.ofNat 3)) 5 w.heap.size (by simp); rw [hsz1] at h; exact h) (by (repeat (first | exact Below.refl _ _ | assumption | refine Below.drew ?_ | refine below_drewN ?_ _ | refine Below.setCell ?_ (by first | exact Nat.le_refl _ | exact Below.size (by assumption) | (simp; done) | (simp; omega) | omega) _ | refine Below.alloc ?_ (by first | exact Nat.le_refl _ | exact Below.size (by assumption) | (simp; done) | (simp; omega) | omega) _)); first | done | fail)) hb20) | (have HO12 : Hid (w20.ownsRow w.heap.size 5 1 (.slice (some ⟨w.heap.size + 1 + 1, 0, none⟩) 1 1) 1 [bv (UInt8.ofNat 3)]) := own_below (own_below (by have h := own_new1 ((w.alloc (.cells #[.string key, .string old, .string new, .bool true, .bool true] 145)).alloc (.cells #[.string key, .string old, .string new] 9)) (bv (UInt8.ofNat 3)) 5 w.heap.size (by simp; omega); rw [World.size_alloc, hsz1] at h; exact h) (by (repeat (first | exact Below.refl _ _ | assumption | refine Below.drew ?_ | refine below_drewN ?_ _ | refine Below.setCell ?_ (by first | exact Nat.le_refl _ | exact Below.size (by assumption) | (simp; done) | (simp; omega) | omega) _ | refine Below.alloc ?_ (by first | exact Nat.le_refl _ | exact Below.size (by assumption) | (simp; done) | (simp; omega) | omega) _)); first | done | fail)) hb20) | skip; clear ho20 hb20)
        | fail)
    all_goals
      go_wp2_with fail
      go_ret
      exact ⟨_, rfl, (by have e : 1 + F.length = (UInt8.ofNat 3 :: F).length := Nat.add_comm _ _; rw [← e]; exact hp21.1), Below.trans (show Below w.heap.size w (w.alloc (.cells #[.string key, .string old, .string new, .bool true, .bool true] 145)) by repeat (first | exact Below.refl _ _ | assumption | refine Below.drew ?_ | refine below_drewN ?_ _ | refine Below.setCell ?_ (by first | exact Nat.le_refl _ | exact Below.size (by assumption) | (simp; done) | (simp; omega) | omega) _ | refine Below.alloc ?_ (by first | exact Nat.le_refl _ | exact Below.size (by assumption) | (simp; done) | (simp; omega) | omega) _)) (hbP.mono (Nat.le_succ _))⟩
end Go.Proofs.Ytlfnpnkpjdmonaa
namespace Go.Proofs.Ytlfnpnkpjdmonaa
open Go.RowKit

/-! ### spec.BackupOK, whole -/
set_option maxRecDepth 100000 in
set_option maxHeartbeats 8000000 in
theorem specBackupOK_bad_e (f t : ByteArray) (ch : Int) (D : Option Addr) (ds : List Df) (dc : Nat) (sm : Int) (w : World) (hf : f.size ≤ maxLen) (ht : t.size ≤ maxLen) (hds : ds.length ≤ 1048576) (h : ¬ (headB f t ch = true ∧ withinB sm 0 4294967295 = true ∧ ds.length ≤ 120)) (hf0 : f = ⟨#[]⟩) :
    Calls Try.prog 147 #[bkV f t ch D ds.length dc sm] w fun e w' => e = .returned (.bool false) ∧ Below w.heap.size w w' := by
  have HB0 : Hid (Below w.heap.size w (w.alloc (.cells #[.string f, .string t, .int .i64 ch, .slice D ds.length dc, .int .i64 sm] 86))) := (show Below _ _ _ by repeat (first | exact Below.refl _ _ | assumption | refine Below.drew ?_ | refine below_drewN ?_ _ | refine Below.setCell ?_ (by first | exact Nat.le_refl _ | exact Below.size (by assumption) | (simp; done) | (simp; omega) | omega) _ | refine Below.alloc ?_ (by first | exact Nat.le_refl _ | exact Below.size (by assumption) | (simp; done) | (simp; omega) | omega) _))
  have HT1 := Lib.hid (fun W => l04Name_any t W ht)
  have HF1 := Lib.hid (fun W => l04Name_any f W hf)
  have HC1 := Lib.hid (fun W => in_any ch 0 4294967295 W)
  have HS1 := Lib.hid (fun W => in_any sm 0 4294967295 W)
  rw [show shortB t.data.toList = shortA t from rfl] at HT1
  rw [show shortB f.data.toList = shortA f from rfl] at HF1
  have e1 : f.toList.isEmpty = true := by rw [hf0, ByteArray.toList_eq]; rfl
  have HF0 := Lib.hid hf0
  clear hf0
  cases hsft : shortA t
  case false =>
    rw [hsft] at HT1
    clear h
    go_enter Try.func147, Try.ntmps147
    go_wp2_with (first | (go_at_call 102; first | ((with_reducible refine (HF1.out _).mono ?_); rintro e w' ⟨rfl, rfl⟩) | ((with_reducible refine (HT1.out _).mono ?_); rintro e w' ⟨rfl, rfl⟩)) | (go_at_call 104; first | ((with_reducible refine (HC1.out _).mono ?_); rintro e w' ⟨rfl, rfl⟩) | ((with_reducible refine (HS1.out _).mono ?_); rintro e w' ⟨rfl, rfl⟩)))
    go_ret
    exact ⟨rfl, HB0.out⟩
  rw [hsft] at HT1
  cases hch : withinB ch 0 4294967295
  case false =>
    rw [hch] at HC1
    clear h
    go_enter Try.func147, Try.ntmps147
    go_wp2_with (first | (go_at_call 102; first | ((with_reducible refine (HF1.out _).mono ?_); rintro e w' ⟨rfl, rfl⟩) | ((with_reducible refine (HT1.out _).mono ?_); rintro e w' ⟨rfl, rfl⟩)) | (go_at_call 104; first | ((with_reducible refine (HC1.out _).mono ?_); rintro e w' ⟨rfl, rfl⟩) | ((with_reducible refine (HS1.out _).mono ?_); rintro e w' ⟨rfl, rfl⟩)))
    go_ret
    exact ⟨rfl, HB0.out⟩
  rw [hch] at HC1
  by_cases hc0 : ch = 0
  case neg =>
    have z1 : (ch == 0) = false := by simp [hc0]
    have z2 : (ch != 0) = true := by simp [hc0]
    clear h
    go_enter Try.func147, Try.ntmps147
    go_wp2_with (first | (go_at_call 102; first | ((with_reducible refine (HF1.out _).mono ?_); rintro e w' ⟨rfl, rfl⟩) | ((with_reducible refine (HT1.out _).mono ?_); rintro e w' ⟨rfl, rfl⟩)) | (go_at_call 104; first | ((with_reducible refine (HC1.out _).mono ?_); rintro e w' ⟨rfl, rfl⟩) | ((with_reducible refine (HS1.out _).mono ?_); rintro e w' ⟨rfl, rfl⟩)))
    go_ret
    exact ⟨rfl, HB0.out⟩
  have z1 : (ch == 0) = true := by rw [hc0]; simp
  have z2 : (ch != 0) = false := by rw [hc0]; simp
  have HC0 := Lib.hid hc0
  clear hc0
  cases hsmm : withinB sm 0 4294967295
  case false =>
    rw [hsmm] at HS1
    clear h
    go_enter Try.func147, Try.ntmps147
    go_wp2_with (first | (go_at_call 102; first | ((with_reducible refine (HF1.out _).mono ?_); rintro e w' ⟨rfl, rfl⟩) | ((with_reducible refine (HT1.out _).mono ?_); rintro e w' ⟨rfl, rfl⟩)) | (go_at_call 104; first | ((with_reducible refine (HC1.out _).mono ?_); rintro e w' ⟨rfl, rfl⟩) | ((with_reducible refine (HS1.out _).mono ?_); rintro e w' ⟨rfl, rfl⟩)))
    go_ret
    exact ⟨rfl, HB0.out⟩
  rw [hsmm] at HS1
  by_cases hl : ds.length ≤ 120
  case neg =>
    have hl' : 120 < ds.length := by omega
    clear h
    go_enter Try.func147, Try.ntmps147
    go_wp2_with (first | (go_at_call 102; first | ((with_reducible refine (HF1.out _).mono ?_); rintro e w' ⟨rfl, rfl⟩) | ((with_reducible refine (HT1.out _).mono ?_); rintro e w' ⟨rfl, rfl⟩)) | (go_at_call 104; first | ((with_reducible refine (HC1.out _).mono ?_); rintro e w' ⟨rfl, rfl⟩) | ((with_reducible refine (HS1.out _).mono ?_); rintro e w' ⟨rfl, rfl⟩)))
    go_ret
    exact ⟨rfl, HB0.out⟩
  exact absurd ⟨by rw [headB, hsft, hch]; simp [hsft, HF0.out, HC0.out], hsmm, hl⟩ h
set_option maxRecDepth 100000 in
set_option maxHeartbeats 8000000 in
theorem specBackupOK_bad_n (f t : ByteArray) (ch : Int) (D : Option Addr) (ds : List Df) (dc : Nat) (sm : Int) (w : World) (hf : f.size ≤ maxLen) (ht : t.size ≤ maxLen) (hds : ds.length ≤ 1048576) (h : ¬ (headB f t ch = true ∧ withinB sm 0 4294967295 = true ∧ ds.length ≤ 120)) (hf0 : f ≠ ⟨#[]⟩) :
    Calls Try.prog 147 #[bkV f t ch D ds.length dc sm] w fun e w' => e = .returned (.bool false) ∧ Below w.heap.size w w' := by
  have HB0 : Hid (Below w.heap.size w (w.alloc (.cells #[.string f, .string t, .int .i64 ch, .slice D ds.length dc, .int .i64 sm] 86))) := (show Below _ _ _ by repeat (first | exact Below.refl _ _ | assumption | refine Below.drew ?_ | refine below_drewN ?_ _ | refine Below.setCell ?_ (by first | exact Nat.le_refl _ | exact Below.size (by assumption) | (simp; done) | (simp; omega) | omega) _ | refine Below.alloc ?_ (by first | exact Nat.le_refl _ | exact Below.size (by assumption) | (simp; done) | (simp; omega) | omega) _))
  have HT1 := Lib.hid (fun W => l04Name_any t W ht)
  have HF1 := Lib.hid (fun W => l04Name_any f W hf)
  have HC1 := Lib.hid (fun W => in_any ch 0 4294967295 W)
  have HS1 := Lib.hid (fun W => in_any sm 0 4294967295 W)
  rw [show shortB t.data.toList = shortA t from rfl] at HT1
  rw [show shortB f.data.toList = shortA f from rfl] at HF1
  have e1 : f.toList.isEmpty = false := notEmpty hf0
  cases hsff : shortA f
  case false =>
    rw [hsff] at HF1
    clear h
    go_enter Try.func147, Try.ntmps147
    go_wp2_with (first | (go_at_call 102; first | ((with_reducible refine (HF1.out _).mono ?_); rintro e w' ⟨rfl, rfl⟩) | ((with_reducible refine (HT1.out _).mono ?_); rintro e w' ⟨rfl, rfl⟩)) | (go_at_call 104; first | ((with_reducible refine (HC1.out _).mono ?_); rintro e w' ⟨rfl, rfl⟩) | ((with_reducible refine (HS1.out _).mono ?_); rintro e w' ⟨rfl, rfl⟩)))
    go_ret
    exact ⟨rfl, HB0.out⟩
  rw [hsff] at HF1
  cases hsft : shortA t
  case false =>
    rw [hsft] at HT1
    clear h
    go_enter Try.func147, Try.ntmps147
    go_wp2_with (first | (go_at_call 102; first | ((with_reducible refine (HF1.out _).mono ?_); rintro e w' ⟨rfl, rfl⟩) | ((with_reducible refine (HT1.out _).mono ?_); rintro e w' ⟨rfl, rfl⟩)) | (go_at_call 104; first | ((with_reducible refine (HC1.out _).mono ?_); rintro e w' ⟨rfl, rfl⟩) | ((with_reducible refine (HS1.out _).mono ?_); rintro e w' ⟨rfl, rfl⟩)))
    go_ret
    exact ⟨rfl, HB0.out⟩
  rw [hsft] at HT1
  cases hch : withinB ch 0 4294967295
  case false =>
    rw [hch] at HC1
    clear h
    go_enter Try.func147, Try.ntmps147
    go_wp2_with (first | (go_at_call 102; first | ((with_reducible refine (HF1.out _).mono ?_); rintro e w' ⟨rfl, rfl⟩) | ((with_reducible refine (HT1.out _).mono ?_); rintro e w' ⟨rfl, rfl⟩)) | (go_at_call 104; first | ((with_reducible refine (HC1.out _).mono ?_); rintro e w' ⟨rfl, rfl⟩) | ((with_reducible refine (HS1.out _).mono ?_); rintro e w' ⟨rfl, rfl⟩)))
    go_ret
    exact ⟨rfl, HB0.out⟩
  rw [hch] at HC1
  cases hsmm : withinB sm 0 4294967295
  case false =>
    rw [hsmm] at HS1
    clear h
    go_enter Try.func147, Try.ntmps147
    go_wp2_with (first | (go_at_call 102; first | ((with_reducible refine (HF1.out _).mono ?_); rintro e w' ⟨rfl, rfl⟩) | ((with_reducible refine (HT1.out _).mono ?_); rintro e w' ⟨rfl, rfl⟩)) | (go_at_call 104; first | ((with_reducible refine (HC1.out _).mono ?_); rintro e w' ⟨rfl, rfl⟩) | ((with_reducible refine (HS1.out _).mono ?_); rintro e w' ⟨rfl, rfl⟩)))
    go_ret
    exact ⟨rfl, HB0.out⟩
  rw [hsmm] at HS1
  by_cases hl : ds.length ≤ 120
  case neg =>
    have hl' : 120 < ds.length := by omega
    clear h
    go_enter Try.func147, Try.ntmps147
    go_wp2_with (first | (go_at_call 102; first | ((with_reducible refine (HF1.out _).mono ?_); rintro e w' ⟨rfl, rfl⟩) | ((with_reducible refine (HT1.out _).mono ?_); rintro e w' ⟨rfl, rfl⟩)) | (go_at_call 104; first | ((with_reducible refine (HC1.out _).mono ?_); rintro e w' ⟨rfl, rfl⟩) | ((with_reducible refine (HS1.out _).mono ?_); rintro e w' ⟨rfl, rfl⟩)))
    go_ret
    exact ⟨rfl, HB0.out⟩
  exact absurd ⟨by rw [headB, hsft, hch]; simp [hsft, hsff], hsmm, hl⟩ h
/-- the reference's judge of a backup is the program's -/
theorem specBackupOK_any (f t : ByteArray) (ch : Int) (D : Option Addr) (ds : List Df) (dc : Nat) (sm : Int) (w : World) (hx : Rd w w.heap.size D (flat encD ds)) (hl : ds.length ≤ 1048576) (hf : f.size ≤ maxLen) (ht : t.size ≤ maxLen) (hs : ∀ d ∈ ds, DSz d) :
    Calls Try.prog 147 #[bkV f t ch D ds.length dc sm] w fun e w' => e = .returned (.bool (bkB f t ch ds sm)) ∧ Below w.heap.size w w' := by
  by_cases h : headB f t ch = true ∧ withinB sm 0 4294967295 = true ∧ ds.length ≤ 120
  · obtain ⟨h1, h2, h3⟩ := h
    rw [show bkB f t ch ds sm = okDs ds by simp [bkB, h1, h2, h3]]
    by_cases hf0 : f = ⟨#[]⟩
    · have hc0 : ch = 0 := by
        have h4 := h1
        simp only [headB, Bool.and_eq_true, Bool.or_eq_true, decide_eq_true_eq] at h4
        rcases h4.1.1 with h5 | h5
        · rw [hf0, shortA_nil] at h5; cases h5
        · exact h5.2
      exact specBackupOK_e f t ch D ds dc sm w hx hf ht hs h1 h2 h3 hf0 hc0
    · have hsf : shortA f = true := by
        have h4 := h1
        simp only [headB, Bool.and_eq_true, Bool.or_eq_true, decide_eq_true_eq] at h4
        rcases h4.1.1 with h5 | h5
        · exact h5
        · exact absurd h5.1 hf0
      exact specBackupOK_n f t ch D ds dc sm w hx hf ht hs h1 h2 h3 hf0 hsf
  · have hbk : bkB f t ch ds sm = false := by
      cases hb : bkB f t ch ds sm with
      | false => rfl
      | true =>
        simp only [bkB, Bool.and_eq_true, decide_eq_true_eq] at hb
        exact absurd ⟨hb.1, hb.2.1, hb.2.2.1⟩ h
    rw [hbk]
    by_cases hf0 : f = ⟨#[]⟩
    · exact specBackupOK_bad_e f t ch D ds dc sm w hf ht hl h hf0
    · exact specBackupOK_bad_n f t ch D ds dc sm w hf ht hl h hf0
end Go.Proofs.Ytlfnpnkpjdmonaa
namespace Go.Proofs.Ytlfnpnkpjdmonaa
open Go.RowKit

/-! ### the reference: a backup's link, whole -/
theorem l01Number4 (n : Nat) (w : World) (hn : n < 4294967296) : Calls Try.prog 200 #[.int .i64 n, .int .i64 4] w fun e w' => ∃ v, e = .returned v ∧ w'.ownsRow w.heap.size 5 1 v 4 ((nb n 4).map bv) ∧ Below w.heap.size w w' := l01Number_any n 4 w (by omega) (by omega)
theorem bodyB_snoc (ds : List Df) (k : Nat) (h : k < ds.length) : bodyB (ds.take (k + 1)) = bodyB (ds.take k) ++ diffF ds[k] := by
  rw [bodyB, bodyB, List.take_succ_eq_append_getElem h, List.flatMap_append, List.flatMap_cons, List.flatMap_nil, List.append_nil]
theorem box_row {w w' : World} {o : Obj} (hb : Below (w.heap.size + 1) (w.alloc o) w') : w'.heap[w.heap.size]? = some o := (hb.block _ (Nat.lt_succ_self _)).trans (heap_alloc_new _ _)
set_option maxRecDepth 100000 in
set_option maxHeartbeats 4000000 in
theorem l06Link_any (f t : ByteArray) (ch : Nat) (D : Option Addr) (ds : List Df) (dc : Nat) (sm : Nat) (w : World) (hx : Rd w w.heap.size D (flat encD ds)) (hk : BkOk f t ch ds sm) :
    Calls Try.prog 212 #[bkV f t ch D ds.length dc sm] w fun e w' => e = .returned (.int .i64 (linkM f t ch ds sm)) ∧ Below w.heap.size w w' := by
  have HX := Lib.hid hx
  have HK := Lib.hid hk
  have hcl := hk.cl
  have hsl := hk.sl
  have hf1 : f.size ≤ 4194304 := by have := hk.fl; omega
  have ht1 : t.size ≤ 4194304 := by have := hk.tl; omega
  have hnl : (namesF f t).length ≤ 131100 := by have := hk.fl; have := hk.tl; rw [namesF_len]; omega
  have hdl := hk.dl
  have HRW : Hid (∀ w' : World, Below (w.heap.size + 1) (w.alloc (.cells #[.string f, .string t, .int .i64 ch, .slice D ds.length dc, .int .i64 sm] 86)) w' → w'.cell? ⟨w.heap.size, 0, none⟩ = some (.string f) ∧ w'.cell? ⟨w.heap.size, 1, none⟩ = some (.string t) ∧ w'.cell? ⟨w.heap.size, 2, none⟩ = some (.int .i64 ch) ∧ w'.cell? ⟨w.heap.size, 3, none⟩ = some (.slice D ds.length dc) ∧ w'.cell? ⟨w.heap.size, 4, none⟩ = some (.int .i64 sm) ∧ w.heap.size + 1 ≤ w'.heap.size) := fun w' hb => by
    have hn : w'.heap[w.heap.size]? = some (.cells #[.string f, .string t, .int .i64 ch, .slice D ds.length dc, .int .i64 sm] 86 (0, 0)) := box_row hb
    have hs := hb.size
    rw [World.size_alloc] at hs
    exact ⟨by rw [cell_of_row w' _ 0 _ _ _ hn]; rfl, by rw [cell_of_row w' _ 1 _ _ _ hn]; rfl, by rw [cell_of_row w' _ 2 _ _ _ hn]; rfl, by rw [cell_of_row w' _ 3 _ _ _ hn]; rfl, by rw [cell_of_row w' _ 4 _ _ _ hn]; rfl, hs⟩
  have hsz1 : (w.alloc (.cells #[.string f, .string t, .int .i64 ch, .slice D ds.length dc, .int .i64 sm] 86)).heap.size = w.heap.size + 1 := by simp
  have hb0 : Below w.heap.size w (w.alloc (.cells #[.string f, .string t, .int .i64 ch, .slice D ds.length dc, .int .i64 sm] 86)) := by repeat (first | exact Below.refl _ _ | assumption | refine Below.drew ?_ | refine below_drewN ?_ _ | refine Below.setCell ?_ (by first | exact Nat.le_refl _ | exact Below.size (by assumption) | (simp; done) | (simp; omega) | omega) _ | refine Below.alloc ?_ (by first | exact Nat.le_refl _ | exact Below.size (by assumption) | (simp; done) | (simp; omega) | omega) _)
  have HB0 := Lib.hid hb0
  clear hx hk hb0
  go_enter Try.func212, Try.ntmps212
  go_wp2_with fail
  go_region_held3 (fun w' => w'.cell? ⟨w.heap.size, 0, none⟩ = some (.string f) ∧ w'.cell? ⟨w.heap.size, 1, none⟩ = some (.string t) ∧ w'.cell? ⟨w.heap.size, 2, none⟩ = some (.int .i64 ch) ∧ w'.cell? ⟨w.heap.size, 3, none⟩ = some (.slice D ds.length dc) ∧ w'.cell? ⟨w.heap.size, 4, none⟩ = some (.int .i64 sm) ∧ w.heap.size + 1 ≤ w'.heap.size)
    ((refine HRW.out _ ?_; first | exact hbP | exact hbF | exact hbN | (repeat (first | exact Below.refl _ _ | assumption | refine Below.drew ?_ | refine below_drewN ?_ _ | refine Below.setCell ?_ (by first | exact Nat.le_refl _ | exact Below.size (by assumption) | (simp; done) | (simp; omega) | omega) _ | refine Below.alloc ?_ (by first | exact Nat.le_refl _ | exact Below.size (by assumption) | (simp; done) | (simp; omega) | omega) _))))
    (first
      | (refine step_push_row elByte rfl _ _ rfl (w.heap.size + 1) _ 4 ((nb ch 4).map bv) rfl HON.out _ A20 (namesF f t).length c20 ((namesF f t).map bv) rfl (Rd.own HO20.out) (by simp) (bv_one _) (by simp only [maxLen]; omega) (by omega) (by omega) (own_nilcap HO20.out) ?_; intro v21 w21 hp21; have hbP := hp21.below HON.out hbF (by omega))
      | (go_at_call 200; refine (l01Number4 ch _ hcl).mono ?_; rintro e w10 ⟨v10, rfl, ho10, hb10⟩; have hbN : Below (w.heap.size + 1) (w.alloc (.cells #[.string f, .string t, .int .i64 ch, .slice D ds.length dc, .int .i64 sm] 86)) w10 := Below.trans (by repeat (first | exact Below.refl _ _ | assumption | refine Below.drew ?_ | refine below_drewN ?_ _ | refine Below.setCell ?_ (by first | exact Nat.le_refl _ | exact Below.size (by assumption) | (simp; done) | (simp; omega) | omega) _ | refine Below.alloc ?_ (by first | exact Nat.le_refl _ | exact Below.size (by assumption) | (simp; done) | (simp; omega) | omega) _)) (hb10.mono (by first | omega | (simp; done) | (simp; omega))); have hsN : w.heap.size + 1 ≤ w10.heap.size := Nat.le_trans (Nat.le_of_eq hsz1.symm) hbN.size; obtain ⟨A10, c10, rfl, _⟩ := own_form ho10; have HO10 := Lib.hid (own_mono (base' := w.heap.size + 1) ho10 (by first | omega | (simp; done) | (simp; omega))); clear ho10)
      | (go_at_call 127; refine (l01F2 f t _ _ (by first | exact rd_alloc _ _ _ _ _ rfl rfl | exact rd_alloc _ _ _ _ _ (by simp) rfl | exact Rd.next (by exact rd_alloc _ _ _ _ _ (by simp) rfl) hb10) hf1 ht1).mono ?_; rintro e w20 ⟨v20, rfl, ho20, hb20⟩; obtain ⟨A20, c20, rfl, _⟩ := own_form ho20; have hbF : Below (w.heap.size + 1) (w.alloc (.cells #[.string f, .string t, .int .i64 ch, .slice D ds.length dc, .int .i64 sm] 86)) w20 := Below.trans (by repeat (first | exact Below.refl _ _ | assumption | refine Below.drew ?_ | refine below_drewN ?_ _ | refine Below.setCell ?_ (by first | exact Nat.le_refl _ | exact Below.size (by assumption) | (simp; done) | (simp; omega) | omega) _ | refine Below.alloc ?_ (by first | exact Nat.le_refl _ | exact Below.size (by assumption) | (simp; done) | (simp; omega) | omega) _)) (hb20.mono (by first | omega | (simp; done) | (simp; omega))); have hsF : w.heap.size + 1 ≤ w20.heap.size := Nat.le_trans (Nat.le_of_eq hsz1.symm) hbF.size; have HO20 := Lib.hid ho20; have HON := Lib.hid (own_below (own_below HO10.out (by repeat (first | exact Below.refl _ _ | assumption | refine Below.drew ?_ | refine below_drewN ?_ _ | refine Below.setCell ?_ (by first | exact Nat.le_refl _ | exact Below.size (by assumption) | (simp; done) | (simp; omega) | omega) _ | refine Below.alloc ?_ (by first | exact Nat.le_refl _ | exact Below.size (by assumption) | (simp; done) | (simp; omega) | omega) _))) hb20); clear ho20 hb20)
      | fail)
  all_goals
    have HO1 : Hid (w21.ownsRow (w.heap.size + 1) 5 1 v21 (linkB1 f t ch).length ((linkB1 f t ch).map bv)) := pushed_own (l := nb ch 4) (m := namesF f t) hp21 (by rw [List.length_append, nb_len])
    have HBP := Lib.hid hbP
    obtain ⟨A21, c21, rfl, _⟩ := own_form HO1.out
    clear hp21 hbP
    go_wp2_with fail
    go_loopw [3, 4] (fun v i wr => ∃ k : Nat, k ≤ ds.length ∧ i = .int .i64 k ∧ wr.ownsRow (w.heap.size + 1) 5 1 v (linkB1 f t ch ++ bodyB (ds.take k)).length ((linkB1 f t ch ++ bodyB (ds.take k)).map bv) ∧ Below (w.heap.size + 1) (w.alloc (.cells #[.string f, .string t, .int .i64 ch, .slice D ds.length dc, .int .i64 sm] 86)) wr) (fun _ i _ => ds.length - (intOf i).toNat)
    case atStart =>
      refine ⟨0, Nat.zero_le _, rfl, ?_, HBP.out⟩
      rw [show linkB1 f t ch ++ bodyB (ds.take 0) = linkB1 f t ch by rw [List.take_zero]; exact List.append_nil _]
      exact HO1.out
    case round =>
      obtain ⟨k, hk, rfl, ho, hb⟩ := hrel
      obtain ⟨c0, c1, c2, c3, c4, hs⟩ := HRW.out wr hb
      have hbw : Below w.heap.size w wr := Below.trans HB0.out (hb.mono (Nat.le_succ _))
      have hLl : (linkB1 f t ch ++ bodyB (ds.take k)).length ≤ 160000 := by
        have h1 := bodyB_len (l := ds.take k) (fun q hq => HK.out.dk q (List.mem_of_mem_take hq))
        rw [List.length_take] at h1
        rw [List.length_append, linkB1, List.length_append, nb_len]
        omega
      have HO := Lib.hid ho
      have HB := Lib.hid hb
      clear hb HO1 HBP
      by_cases hlt : k < ds.length
      · obtain ⟨ad, rfl, hbl, h1, h2, h3, h4, h5⟩ := (HX.out.below hbw).df hlt
        have hok := Lib.hid (HK.out.dk _ (List.getElem_mem hlt))
        have HSN := Lib.hid (bodyB_snoc ds k hlt)
        have hdl2 := diffF_len hok.out
        generalize hgx : ds[k] = x at *
        generalize hgl : linkB1 f t ch ++ bodyB (ds.take k) = L at *
        have HGL := Lib.hid hgl
        obtain ⟨A0, n0, rfl, _⟩ := own_form ho
        clear hgx hgl ho
        go_wp2_with (first
          | (go_at_call 215; refine (l06Diff_any x _ hok.out).mono ?_; rintro e w2 ⟨v2, rfl, ho2, hb2⟩; obtain ⟨A2, n2, rfl, _⟩ := own_form ho2; have HO2 := Lib.hid ho2; have HOL := Lib.hid (own_below HO.out hb2); have HB2 := Lib.hid (HB.out.trans (hb2.mono hs)); have hs2 : w.heap.size + 1 ≤ w2.heap.size := Nat.le_trans hs hb2.size; clear ho2 hb2)
          | (at_builtin; refine push_row elByte rfl _ _ rfl (w.heap.size + 1) _ L.length (L.map bv) rfl HOL.out _ A2 (diffF x).length n2 ((diffF x).map bv) rfl (Rd.own HO2.out) (by simp) (bv_one _) (by simp only [maxLen]; omega) (by omega) (by omega) (own_nilcap HO2.out) ?_; intro v3 w3 hp3; have HO3 := Lib.hid (pushed_own (l := L) (m := diffF x) hp3 (by rw [List.length_append])); have HB3 := Lib.hid (hp3.below HOL.out HB2.out (by omega)); clear hp3))
        go_roundw
        case rel =>
          refine ⟨k + 1, by omega, by go_num, ?_, HB3.out⟩
          rw [HSN.out, ← List.append_assoc, HGL.out]
          exact HO3.out
        case measure => simp [intOf]; omega
      · have hke : k = ds.length := by omega
        subst hke
        rw [List.take_length] at ho HO hLl
        have HLB : Hid (linkB1 f t ch ++ bodyB ds = linkB2 f t ch ds) := (show _ = _ from rfl)
        rw [HLB.out] at ho HO hLl
        obtain ⟨A0, n0, rfl, _⟩ := own_form ho
        clear ho
        go_wp2_with (first
          | (go_at_call 200; refine (l01Number4 sm _ hsl).mono ?_; rintro e w2 ⟨v2, rfl, ho2, hb2⟩; obtain ⟨A2, n2, rfl, _⟩ := own_form ho2; have HO2 := Lib.hid ho2; have HOL := Lib.hid (own_below HO.out hb2); have HB2 := Lib.hid (HB.out.trans (hb2.mono hs)); have hs2 : w.heap.size + 1 ≤ w2.heap.size := Nat.le_trans hs hb2.size; clear ho2 hb2)
          | (at_builtin; refine push_row elByte rfl _ _ rfl (w.heap.size + 1) _ (linkB2 f t ch ds).length ((linkB2 f t ch ds).map bv) rfl HOL.out _ A2 4 n2 ((nb sm 4).map bv) rfl (Rd.own HO2.out) (by simp [nb_len]) (bv_one _) (by simp only [maxLen]; omega) (by omega) (by omega) (own_nilcap HO2.out) ?_; intro v3 w3 hp3; have hs3 : w2.heap.size ≤ w3.heap.size := hp3.2.size; have HO3 : Hid (w3.ownsRow (w.heap.size + 1) 5 1 v3 (linkB f t ch ds sm).length ((linkB f t ch ds sm).map bv)) := pushed_own (l := linkB2 f t ch ds) (m := nb sm 4) hp3 (by rw [List.length_append, nb_len]); have hll : (linkB f t ch ds sm).length ≤ 200000 := (by rw [linkB, List.length_append, nb_len]; omega); obtain ⟨A3, n3, rfl, _⟩ := own_form HO3.out; have HB3 := Lib.hid (hp3.below HOL.out HB2.out (by omega)); clear hp3)
          | (go_at_call 219; refine (l01Check_any A3 n3 (linkB f t ch ds sm) _ (Rd.own HO3.out) (by omega)).mono ?_; rintro e w4 ⟨rfl, hb4⟩; have HB4 := Lib.hid (Below.trans HB0.out ((HB3.out.mono (Nat.le_succ _)).trans (hb4.mono (Nat.le_trans (Nat.le_succ _) (Nat.le_trans hs2 (by first | exact Nat.le_refl _ | exact hs3)))))); clear hb4))
        go_ret
        exact ⟨rfl, HB4.out⟩
end Go.Proofs.Ytlfnpnkpjdmonaa
namespace Go.Proofs.Ytlfnpnkpjdmonaa
open Go.RowKit

/-! ### plain: what the reference's reading comes to -/
theorem P0_mark {l : List UInt8} (h : l.take 6 ≠ bkMark) : P0of l = none := by unfold P0of; rw [if_neg h]
theorem P0_short {l : List UInt8} (h : l.length < 10) : P0of l = none := by
  unfold P0of
  split
  · unfold rdBk; rw [if_pos (by rw [List.length_drop]; omega)]
  · rfl
theorem P0_head {l : List UInt8} (h : l.take 6 = bkMark) (h10 : ¬ l.length < 10) : P0of l = K2 (be ((l.drop 6).take 4)) (l.drop 10) := by
  unfold P0of rdBk K2
  rw [if_pos h, if_neg (by rw [List.length_drop]; omega), List.drop_drop]
theorem K2_none {ch : Nat} {l : List UInt8} (h : rdX 2 l = none) : K2 ch l = none := by unfold K2; rw [h]
theorem K2_some {ch : Nat} {l : List UInt8} {p : List (List UInt8) × List UInt8} (h : rdX 2 l = some p) : K2 ch l = K3 ch p.1 p.2 := by unfold K2; rw [h]; rfl
def K4d (ch : Nat) (ns : List (List UInt8)) (ds : List Df) (many : Nat) (l : List UInt8) : Option Bq := match rdDs many l with
    | none => none
    | some q => if q.2.length = 8 then some ⟨bs (ns.getD 0 []), bs (ns.getD 1 []), ch, ds ++ q.1, be (q.2.take 4), be ((q.2.drop 4).take 4)⟩ else none
theorem K3_none {ch : Nat} {ns : List (List UInt8)} {l : List UInt8} (h : l.length < 1) : K3 ch ns l = none := by unfold K3; rw [if_pos h]
theorem K3_some {ch : Nat} {ns : List (List UInt8)} {l : List UInt8} (h : ¬ l.length < 1) : K3 ch ns l = K4d ch ns [] (be (l.take 1)) (l.drop 1) := by
  unfold K3 K4d; rw [if_neg h]; rfl
theorem K4d_zero {ch : Nat} {ns : List (List UInt8)} {ds : List Df} {l : List UInt8} : K4d ch ns ds 0 l = K5 ch ns ds l := by
  unfold K4d K5; rw [rdDs]; simp
theorem K4d_none {ch m : Nat} {ns : List (List UInt8)} {ds : List Df} {l : List UInt8} (h : rdD l = none) : K4d ch ns ds (m + 1) l = none := by
  unfold K4d; rw [rdDs, h]
theorem K4d_some {ch m : Nat} {ns : List (List UInt8)} {ds : List Df} {l : List UInt8} {p : Df × List UInt8} (h : rdD l = some p) : K4d ch ns ds (m + 1) l = K4d ch ns (ds ++ [p.1]) m p.2 := by
  unfold K4d; rw [rdDs, h]; dsimp only; cases rdDs m p.2 <;> simp
theorem okDs_mem {l : List Df} {d : Df} (hd : d ∈ l) (h : dOk d = false) : okDs l = false := by
  obtain ⟨i, hi, rfl⟩ := List.getElem_of_mem hd
  exact okDs_false1 hi h
theorem K4d_bad {ch m : Nat} {ns : List (List UInt8)} {ds : List Df} {l : List UInt8} {d : Df} (hd : d ∈ ds) (h : dOk d = false) : finM (K4d ch ns ds m l) = (bkZero, 3) := by
  unfold K4d
  cases rdDs m l with
  | none => rfl
  | some q =>
    dsimp only
    split
    · refine finM_bad ?_
      show bkB _ _ _ (ds ++ q.1) _ = false
      rw [bkB, okDs_mem (List.mem_append_left _ hd) h]; simp
    · rfl
theorem rdD_at {l : List UInt8} {a : Nat} (h : a < l.length) : rdD (l.drop a) = match rdX 3 (l.drop (a + 1)) with
    | some p => if l[a].toNat ≤ 3 then some (dfOf l[a].toNat p.1, p.2) else none
    | none => none := by
  have hdc : l.drop a = l[a] :: l.drop (a + 1) := List.drop_eq_getElem_cons h
  unfold rdD
  rw [hdc, if_neg (by rw [List.length_cons]; omega), show (l[a] :: l.drop (a + 1)).drop 1 = l.drop (a + 1) from rfl, show (l[a] :: l.drop (a + 1)).take 1 = [l[a]] from rfl, be_single]
  cases rdX 3 (l.drop (a + 1)) <;> rfl
theorem rdD_end {l : List UInt8} {a : Nat} (h : ¬ a < l.length) : rdD (l.drop a) = none := by
  unfold rdD; rw [if_pos (by rw [List.length_drop]; omega)]
theorem dOk_mark0 (xs : List (List UInt8)) : dOk (dfOf 0 xs) = false := by simp [dOk, dfOf]
theorem K4d_at0 {ch m a : Nat} {ns : List (List UInt8)} {ds : List Df} {l : List UInt8} (h : a < l.length) (h0 : l[a].toNat = 0) : finM (K4d ch ns ds (m + 1) (l.drop a)) = (bkZero, 3) := by
  cases hd : rdD (l.drop a) with
  | none => rw [K4d_none hd]; rfl
  | some p =>
    rw [K4d_some hd]
    rw [rdD_at h] at hd
    split at hd
    · rw [if_pos (by omega)] at hd
      injection hd with hd
      subst hd
      exact K4d_bad (List.mem_append_right _ (List.mem_singleton.2 rfl)) (by rw [h0]; exact dOk_mark0 _)
    · cases hd
theorem K4d_at3 {ch m a : Nat} {ns : List (List UInt8)} {ds : List Df} {l : List UInt8} (h : a < l.length) (h0 : 3 < l[a].toNat) : K4d ch ns ds (m + 1) (l.drop a) = none := by
  refine K4d_none ?_
  rw [rdD_at h]
  split
  · rw [if_neg (by omega)]
  · rfl
theorem K4d_atx {ch m a : Nat} {ns : List (List UInt8)} {ds : List Df} {l : List UInt8} (h : a < l.length) (h0 : rdX 3 (l.drop (a + 1)) = none) : K4d ch ns ds (m + 1) (l.drop a) = none := by
  refine K4d_none ?_
  rw [rdD_at h, h0]
theorem K4d_step {ch m a : Nat} {ns : List (List UInt8)} {ds : List Df} {l : List UInt8} {p : List (List UInt8) × List UInt8} (h : a < l.length) (h3 : l[a].toNat ≤ 3) (h0 : rdX 3 (l.drop (a + 1)) = some p) : K4d ch ns ds (m + 1) (l.drop a) = K4d ch ns (ds ++ [dfOf l[a].toNat p.1]) m p.2 := by
  have e : rdD (l.drop a) = some (dfOf l[a].toNat p.1, p.2) := by
    rw [rdD_at h, h0]; dsimp only; rw [if_pos h3]
  rw [K4d_some e]
theorem rdX_len {k : Nat} {l : List UInt8} {p : List (List UInt8) × List UInt8} (h : rdX k l = some p) : p.1.length = k := by
  unfold rdX at h
  split at h
  · split at h
    · injection h with h; subst h; assumption
    · cases h
  · cases h

/-! what lies in memory while the reference reads -/
structure SB (w wr : World) (gb : Nat) (f t : ByteArray) (ch : Int) (v : Value) (ds : List Df) (sm : Int) : Prop where
  res : wr.heap[w.heap.size]? = some (.cells #[.string ⟨#[]⟩, .string ⟨#[]⟩, .int .i64 0, .slice none 0 0, .int .i64 0] 86 (0, 0))
  box : wr.heap[gb]? = some (.cells #[.string f, .string t, .int .i64 ch, v, .int .i64 sm] 86 (0, 0))
  own : wr.ownsRow w.heap.size 145 5 v ds.length (flat encD ds)
  below : Below w.heap.size w wr
  gt : w.heap.size < gb
section
variable {w wr : World} {gb : Nat} {f t : ByteArray} {ch sm : Int} {v : Value} {ds : List Df}
theorem SB.neB (h : SB w wr gb f t ch v ds sm) : v.ownBlock ≠ some gb := own_ne_blk h.own h.box (by decide)
theorem SB.neR (h : SB w wr gb f t ch v ds sm) : v.ownBlock ≠ some w.heap.size := own_ne_blk h.own h.res (by decide)
theorem SB.gl (h : SB w wr gb f t ch v ds sm) : gb < wr.heap.size := (Array.getElem?_eq_some_iff.1 h.box).1
theorem SB.old {w' : World} (h : SB w wr gb f t ch v ds sm) (hb : Below wr.heap.size wr w') : SB w w' gb f t ch v ds sm := by
  have h1 := h.gt
  have h2 := h.gl
  exact ⟨(hb.block _ (by omega)).trans h.res, (hb.block _ h2).trans h.box, own_below h.own hb, below_after h.below hb, h1⟩
theorem SB.drew (h : SB w wr gb f t ch v ds sm) : SB w wr.drew gb f t ch v ds sm := ⟨h.res, h.box, h.own, h.below.drew, h.gt⟩
theorem SB.field (h : SB w wr gb f t ch v ds sm) (i : Nat) (u : Value) {f' t' : ByteArray} {sm' : Int} (hu : (#[.string f, .string t, .int .i64 ch, v, .int .i64 sm] : Array Value).setIfInBounds i u = #[.string f', .string t', .int .i64 ch, v, .int .i64 sm']) : SB w (wr.setCell ⟨gb, i, none⟩ u) gb f' t' ch v ds sm' := by
  have h1 := h.gt
  refine ⟨(heap_setCell_other _ _ _ _ (by show w.heap.size ≠ gb; omega)).trans h.res, (heap_setCell_same _ _ _ _ _ _ h.box).trans (by rw [hu]), h.own.kept (grown_set _ _ _ _) (.inr h.neB), h.below.setCell (p := ⟨gb, i, none⟩) (by show w.heap.size ≤ gb; omega) _, h1⟩
theorem SB.push {w3 : World} {v' : Value} {d : Df} {o : Obj} (h : SB w wr gb f t ch v ds sm) (hp : Pushed w.heap.size 145 5 v (ds.length + 1) (flat encD ds ++ encD d) (wr.alloc o) v' w3) : SB w (w3.setCell ⟨gb, 3, none⟩ v') gb f t ch v' (ds ++ [d]) sm := by
  have h1 := h.gt
  have h2 := h.gl
  have ha : SB w (wr.alloc o) gb f t ch v ds sm := h.old (by repeat (first | exact Below.refl _ _ | assumption | refine Below.drew ?_ | refine below_drewN ?_ _ | refine Below.setCell ?_ (by first | exact Nat.le_refl _ | exact Below.size (by assumption) | (simp; done) | (simp; omega) | omega) _ | refine Below.alloc ?_ (by first | exact Nat.le_refl _ | exact Below.size (by assumption) | (simp; done) | (simp; omega) | omega) _))
  have hz : (wr.alloc o).heap.size = wr.heap.size + 1 := by simp
  have hbx := (hp.2.block gb (by omega) (fun e => ha.neB e.symm)).trans ha.box
  have ho : w3.ownsRow w.heap.size 145 5 v' (ds ++ [d]).length (flat encD (ds ++ [d])) := by
    have := hp.1
    rw [flat_append, List.length_append, flat_cons, flat_nil, List.append_nil]
    exact this
  have hne : v'.ownBlock ≠ some gb := own_ne_blk ho hbx (by decide)
  exact ⟨(heap_setCell_other _ _ _ _ (by show w.heap.size ≠ gb; omega)).trans ((hp.2.block _ (by omega) (fun e => ha.neR e.symm)).trans ha.res), heap_setCell_same _ _ _ _ _ _ hbx, ho.kept (grown_set _ _ _ _) (.inr hne), (ha.below.grown hp.2 ha.below.size (fun k hk => (ha.own.lt k hk).1)).setCell (p := ⟨gb, 3, none⟩) (by show w.heap.size ≤ gb; omega) _, h1⟩
theorem SB.out5 (h : SB w wr gb f t ch v ds sm) (v0 v1 v2 v3 v4 : Value) :
    let W := ((((wr.setCell ⟨w.heap.size, 0, none⟩ v0).setCell ⟨w.heap.size, 1, none⟩ v1).setCell ⟨w.heap.size, 2, none⟩ v2).setCell ⟨w.heap.size, 3, none⟩ v3).setCell ⟨w.heap.size, 4, none⟩ v4
    W.cell? ⟨w.heap.size, 0, none⟩ = some v0 ∧ W.cell? ⟨w.heap.size, 1, none⟩ = some v1 ∧ W.cell? ⟨w.heap.size, 2, none⟩ = some v2 ∧ W.cell? ⟨w.heap.size, 3, none⟩ = some v3 ∧ W.cell? ⟨w.heap.size, 4, none⟩ = some v4 ∧ Below w.heap.size w W ∧ W.ownsRow w.heap.size 145 5 v ds.length (flat encD ds) := by
  intro W
  have hn5 : W.heap[w.heap.size]? = _ := heap_set5 h.res v0 v1 v2 v3 v4
  have hne := h.neR
  refine ⟨by rw [cell_of_row W _ 0 _ _ _ hn5]; rfl, by rw [cell_of_row W _ 1 _ _ _ hn5]; rfl, by rw [cell_of_row W _ 2 _ _ _ hn5]; rfl, by rw [cell_of_row W _ 3 _ _ _ hn5]; rfl, by rw [cell_of_row W _ 4 _ _ _ hn5]; rfl, ?_, ?_⟩
  · exact ((((h.below.setCell (p := ⟨w.heap.size, 0, none⟩) (Nat.le_refl _) _).setCell (p := ⟨w.heap.size, 1, none⟩) (Nat.le_refl _) _).setCell (p := ⟨w.heap.size, 2, none⟩) (Nat.le_refl _) _).setCell (p := ⟨w.heap.size, 3, none⟩) (Nat.le_refl _) _).setCell (p := ⟨w.heap.size, 4, none⟩) (Nat.le_refl _) _
  · exact ((((h.own.kept (grown_set _ _ _ _) (.inr hne)).kept (grown_set _ _ _ _) (.inr hne)).kept (grown_set _ _ _ _) (.inr hne)).kept (grown_set _ _ _ _) (.inr hne)).kept (grown_set _ _ _ _) (.inr hne)
theorem SB.resCells (h : SB w wr gb f t ch v ds sm) : wr.cell? ⟨w.heap.size, 0, none⟩ = some (.string ⟨#[]⟩) ∧ wr.cell? ⟨w.heap.size, 1, none⟩ = some (.string ⟨#[]⟩) ∧ wr.cell? ⟨w.heap.size, 2, none⟩ = some (.int .i64 0) ∧ wr.cell? ⟨w.heap.size, 3, none⟩ = some (.slice none 0 0) ∧ wr.cell? ⟨w.heap.size, 4, none⟩ = some (.int .i64 0) ∧ ∀ i, wr.frozen? ⟨w.heap.size, i, none⟩ = false :=
  ⟨by rw [cell_of_row wr _ 0 _ _ _ h.res]; rfl, by rw [cell_of_row wr _ 1 _ _ _ h.res]; rfl, by rw [cell_of_row wr _ 2 _ _ _ h.res]; rfl, by rw [cell_of_row wr _ 3 _ _ _ h.res]; rfl, by rw [cell_of_row wr _ 4 _ _ _ h.res]; rfl, fun i => Lib.frozen_of_heap h.res i⟩
theorem SB.boxCells (h : SB w wr gb f t ch v ds sm) : wr.cell? ⟨gb, 0, none⟩ = some (.string f) ∧ wr.cell? ⟨gb, 1, none⟩ = some (.string t) ∧ wr.cell? ⟨gb, 2, none⟩ = some (.int .i64 ch) ∧ wr.cell? ⟨gb, 3, none⟩ = some v ∧ wr.cell? ⟨gb, 4, none⟩ = some (.int .i64 sm) ∧ ∀ i, wr.frozen? ⟨gb, i, none⟩ = false :=
  ⟨by rw [cell_of_row wr _ 0 _ _ _ h.box]; rfl, by rw [cell_of_row wr _ 1 _ _ _ h.box]; rfl, by rw [cell_of_row wr _ 2 _ _ _ h.box]; rfl, by rw [cell_of_row wr _ 3 _ _ _ h.box]; rfl, by rw [cell_of_row wr _ 4 _ _ _ h.box]; rfl, fun i => Lib.frozen_of_heap h.box i⟩
end
end Go.Proofs.Ytlfnpnkpjdmonaa
