import Derived.Test.YtlfnpnkpjdmonaaRowK
import Derived.Test.YtlfnpnkpjdmonaaPairLaw
set_option linter.unusedVariables false
set_option linter.unusedSimpArgs false
namespace Go.Proofs.Ytlfnpnkpjdmonaa
open Go.RowKit

/-! ### drop of a pair -/
set_option maxRecDepth 100000 in
set_option maxHeartbeats 1000000 in
theorem dropPair_any (base : Nat) (v : Value) (l : List Pr) (k : ByteArray) (w : World) (ho : w.ownsRow base 82 2 v l.length (flat encP l)) (hr : Rise l) (hl : l.length ≤ 1048575) (hb : base ≤ w.heap.size) :
    Calls Try.prog 140 #[v, .string k] w (InsPost base v (dropP l k) w) := by
  obtain ⟨I, hI⟩ : ∃ I, I = atP l k := ⟨_, rfl⟩
  have hIl : I ≤ l.length := by rw [hI]; exact atP_le l k
  cases hh : hitP l k with
  | true =>
    obtain ⟨hlt, hkey⟩ := mem_of_hit hh
    rw [← hI] at hlt
    have HE : Hid (delP l I = dropP l k) := by
      show _ = _
      rw [dropP_hit hr hh, ← hI]
      rfl
    clear hkey
    rcases ho.2 with ⟨h', h0⟩ | ⟨g, cap, cur, h', _⟩
    · omega
    subst h'
    have HC := Lib.hid (pairAt_any (some ⟨g, 0, none⟩) cap l k w (Rd.own ho) (by omega) hr)
    rw [← hI, hh] at HC
    obtain ⟨m, hm⟩ : ∃ m, m + 1 = l.length := ⟨l.length - 1, by omega⟩
    rw [← hm] at HC ho ⊢
    have HO := Lib.hid ho
    have HM := Lib.hid hm
    have hw1 : IntKind.i64.wrap ((I : Int) + 1) = (I : Int) + 1 := IntWalk.i64_in _ (by omega)
    have hm1 : m ≤ 1048574 := by omega
    have hIm : I < m + 1 := by omega
    clear ho hr hI hh hm hl hlt hIl
    go_enter Try.func140, Try.ntmps140
    go_wp2_with fail
    refine HC.out.mono ?_
    rintro e w1 ⟨rfl, hb1⟩
    have ho1 := own_below HO.out hb1
    have hbs := hb1.size
    have HB := Lib.hid (grown_below hb1 (some g))
    have HD := Lib.hid (delete_any base g cap m I l w1 HM.out ho1 hIm (by omega) (by omega))
    clear hb1 ho1
    go_wp2_with fail
    refine HD.out.mono ?_
    rintro e w2 ⟨v2, rfl, ho2, hg2⟩
    rw [HE.out] at ho2
    have HG := Lib.hid (grown_after HB.out hg2)
    have HO2 := Lib.hid ho2
    clear ho2 hg2
    go_wp2_with fail
    go_ret
    exact ⟨_, rfl, HO2.out, HG.out⟩
  | false =>
    obtain ⟨A, c, rfl, hnc⟩ := own_form ho
    have HC := Lib.hid (pairAt_any A c l k w (Rd.own ho) (by omega) hr)
    rw [← hI, hh] at HC
    have HO := Lib.hid ho
    have HE := Lib.hid (dropP_miss hr hh)
    clear ho hr hI hh
    go_enter Try.func140, Try.ntmps140
    go_wp2_with fail
    refine HC.out.mono ?_
    rintro e w1 ⟨rfl, hb1⟩
    have ho1 := own_below HO.out hb1
    have HB := Lib.hid (grown_below hb1 (Value.slice A l.length c).ownBlock)
    have HO1 := Lib.hid ho1
    clear hb1 ho1
    go_wp2_with fail
    go_ret
    exact ⟨_, rfl, by rw [HE.out]; exact HO1.out, HB.out⟩
end Go.Proofs.Ytlfnpnkpjdmonaa
namespace Go.Proofs.Ytlfnpnkpjdmonaa
open Go.RowKit

/-! ### PairsUnder: DeleteFunc with a closure that holds a key -/
def pre (s k : ByteArray) : Bool := Lib.hasPrefix s.data.toList k.data.toList
def keepK (k : ByteArray) (p : Pr) : Bool := pre p.1 k
theorem notUnder_any (p : Pr) (b : Nat) (k : ByteArray) (w : World) (hc : w.cell? ⟨b, 0, none⟩ = some (.string k)) (hb : b < w.heap.size) :
    Calls Try.prog 142 #[prV p, .pointer (some ⟨b, 0, none⟩)] w fun e w' => e = .returned (.bool (!keepK k p)) ∧ Below w.heap.size w w' := by
  go_enter Try.func142, Try.ntmps142
  have hc2 : ∀ o, (w.alloc o).cell? ⟨b, 0, none⟩ = some (.string k) := fun o => by rw [← hc]; exact World.cell?_of_block (Lib.alloc_old w o b hb)
  go_wp2_with fail
  refine (Try.strings_HasPrefix p.1 k _).mono ?_
  rintro e w1 ⟨rfl, rfl⟩
  go_wp2_with fail
  go_ret
  exact ⟨rfl, by repeat (first | exact Below.refl _ _ | assumption | refine Below.drew ?_ | refine below_drewN ?_ _ | refine Below.setCell ?_ (by first | exact Nat.le_refl _ | exact Below.size (by assumption) | (simp; done) | (simp; omega) | omega) _ | refine Below.alloc ?_ (by first | exact Nat.le_refl _ | exact Below.size (by assumption) | (simp; done) | (simp; omega) | omega) _)⟩
set_option maxRecDepth 100000 in
theorem indexUnder_any (A : Option Addr) (c : Nat) (l : List Pr) (b : Nat) (k : ByteArray) (w : World) (hx : Rd w w.heap.size A (flat encP l)) (hl : l.length ≤ 1048576) (hc : w.cell? ⟨b, 0, none⟩ = some (.string k)) (hb : b < w.heap.size) :
    Calls Try.prog 208 #[.slice A l.length c, .func (.func 142) #[] #[.pointer (some ⟨b, 0, none⟩)]] w fun e w' => Below w.heap.size w w' ∧ ((e = .returned (.int .i64 (-1)) ∧ ∀ p ∈ l, keepK k p = true) ∨ ∃ i : Nat, e = .returned (.int .i64 i) ∧ i < l.length ∧ (l[i]?.map (keepK k)) = some false ∧ ∀ p ∈ l.take i, keepK k p = true) := by
  have HX := Lib.hid hx
  have HC := Lib.hid hc
  clear hx hc
  go_enter Try.func208, Try.ntmps208
  go_wp2
  go_loopw [8] (fun i wr => ∃ j : Nat, j ≤ l.length ∧ i = .int .i64 j ∧ (∀ p ∈ l.take j, keepK k p = true) ∧ Below w.heap.size w wr) (fun i _ => l.length - (intOf i).toNat)
  case atStart => exact ⟨0, by omega, rfl, by simp, Below.refl _ _⟩
  case round =>
    obtain ⟨j, hj, rfl, hall, hbe⟩ := hrel
    have HA := Lib.hid hall
    clear hall
    by_cases hlt : j < l.length
    · obtain ⟨ad, rfl, hbl, hca, hcb⟩ := (HX.out.below hbe).pr hlt
      have hck : wr.cell? ⟨b, 0, none⟩ = some (.string k) := (hbe.cell hb).trans HC.out
      have hbs := hbe.size
      have HK := Lib.hid hck
      clear hck
      cases hkp : keepK k l[j] with
      | true =>
        have HP := Lib.hid hkp
        clear hkp
        go_wp2_with fail
        refine (notUnder_any l[j] b k _ HK.out (by omega)).mono ?_
        rw [HP.out]
        rintro e w2 ⟨rfl, hb2⟩
        have hb3 := below_after hbe hb2
        clear hb2 hca hcb
        go_wp2_with fail
        go_roundw
        case rel =>
          refine ⟨j + 1, hlt, by go_num, fun p hp => ?_, hb3⟩
          rw [List.take_succ_eq_append_getElem hlt, List.mem_append] at hp
          rcases hp with hp | hp
          · exact HA.out p hp
          · rw [List.mem_singleton] at hp
            rw [hp]
            exact HP.out
        case measure => simp [intOf]; omega
      | false =>
        have HP := Lib.hid hkp
        clear hkp
        go_wp2_with fail
        refine (notUnder_any l[j] b k _ HK.out (by omega)).mono ?_
        rw [HP.out]
        rintro e w2 ⟨rfl, hb2⟩
        have hb3 := below_after hbe hb2
        clear hb2 hca hcb
        go_wp2_with fail
        go_ret
        exact ⟨hb3, .inr ⟨j, rfl, hlt, by rw [List.getElem?_eq_getElem hlt, Option.map_some, HP.out], HA.out⟩⟩
    · obtain rfl : j = l.length := by omega
      go_wp2_with fail
      go_ret
      exact ⟨hbe, .inl ⟨rfl, fun p hp => HA.out p (by rw [List.take_of_length_le (Nat.le_refl _)]; exact hp)⟩⟩
end Go.Proofs.Ytlfnpnkpjdmonaa
namespace Go.Proofs.Ytlfnpnkpjdmonaa
open Go.RowKit

theorem flat_set (L : List Pr) (i : Nat) (x : Pr) (hi : i < L.length) : putAt (flat encP L) (i * 2) [.string x.1, .string x.2] = flat encP (L.set i x) := by
  have e : L = L.take i ++ L[i] :: L.drop (i + 1) := by simp
  have h1 : (flat encP (L.take i)).length = i * 2 := by rw [flat_length encP_len, List.length_take, Nat.min_eq_left (by omega)]
  have h2 : L.set i x = L.take i ++ x :: L.drop (i + 1) := List.set_eq_take_append_cons_drop.trans (if_pos hi)
  unfold putAt
  rw [flat_take L i (by omega), show i * 2 + [Value.string x.1, Value.string x.2].length = (i + 1) * 2 from by simp; omega, flat_drop, h2, flat_append, flat_cons]
  rfl
theorem take_set_lt (L : List Pr) (i : Nat) (x : Pr) (hi : i < L.length) : (L.set i x).take (i + 1) = L.take i ++ [x] := by
  rw [List.set_eq_take_append_cons_drop, if_pos hi, List.take_append]
  simp only [List.length_take, Nat.min_eq_left (Nat.le_of_lt hi)]
  rw [List.take_of_length_le (by simp; omega), show i + 1 - i = 1 from by omega]
  rfl
theorem zero_one (n : Nat) : ∀ u ∈ (Builtin.zeroCells (Value.agg #[.string ⟨#[]⟩, .string ⟨#[]⟩]).cells n).toList, u.oneCell' = true := by
  intro u hu
  simp [Builtin.zeroCells, Value.cells] at hu
  obtain ⟨q, _, rfl⟩ := hu
  rcases Nat.mod_two_eq_zero_or_one q with h | h <;> rw [h] <;> rfl
set_option maxRecDepth 100000 in
set_option maxHeartbeats 2000000 in
theorem deleteUnder_any (base : Nat) (v : Value) (l : List Pr) (b : Nat) (k : ByteArray) (w : World) (ho : w.ownsRow base 82 2 v l.length (flat encP l)) (hl : l.length ≤ 1048576) (hb : base ≤ w.heap.size) (hc : w.cell? ⟨b, 0, none⟩ = some (.string k)) (hbb : b < base) :
    Calls Try.prog 141 #[v, .func (.func 142) #[] #[.pointer (some ⟨b, 0, none⟩)]] w (InsPost base v (l.filter (keepK k)) w) := by
  obtain ⟨A, c, rfl, hnc⟩ := own_form ho
  have HI := Lib.hid (indexUnder_any A c l b k w (Rd.own ho) hl hc (by omega))
  have HO := Lib.hid ho
  have HC := Lib.hid hc
  clear ho hc
  go_enter Try.func141, Try.ntmps141
  go_wp2_with fail
  refine HI.out.mono ?_
  rintro e w1 ⟨hb1, h | ⟨i0, rfl, hi0, hdel, hall⟩⟩
  · obtain ⟨rfl, hall⟩ := h
    have HE : Hid (l.filter (keepK k) = l) := List.filter_eq_self.2 hall
    clear hall HI
    have HO1 := Lib.hid (own_below HO.out hb1)
    have HB := Lib.hid (grown_below hb1 (Value.slice A l.length c).ownBlock)
    clear hb1
    go_wp2_with fail
    go_ret
    exact ⟨_, rfl, by rw [HE.out]; exact HO1.out, HB.out⟩
  · have hgA : ∃ g, A = some ⟨g, 0, none⟩ := by
      rcases HO.out.2 with ⟨h', h0⟩ | ⟨g, cap, cur, h', _⟩
      · omega
      · simp only [Value.slice.injEq] at h'
        exact ⟨g, h'.1⟩
    obtain ⟨g, rfl⟩ := hgA
    have HO1 := Lib.hid (own_below HO.out hb1)
    have HB := Lib.hid (grown_below hb1 (some g))
    have HA := Lib.hid hall
    have hbg : base ≤ g := (HO.out.lt g rfl).1
    have hs1 : w.heap.size ≤ w1.heap.size := hb1.size
    have hn1 : ((i0 : Int) == -1) = false := by rw [beq_eq_false_iff_ne]; omega
    have hw1 : IntKind.i64.wrap ((i0 : Int) + 1) = (i0 : Int) + 1 := IntWalk.i64_in _ (by omega)
    clear hall HI hb1
    obtain ⟨n, hn⟩ : ∃ n, n = l.length := ⟨_, rfl⟩
    rw [← hn] at HO1 hi0 hl hnc ⊢
    have HN := Lib.hid hn
    have HD := Lib.hid hdel
    clear hn hdel HO
    go_wp2_with fail
    go_loopw [5, 6] (fun x y wr => ∃ (i j : Nat) (L : List Pr), i < j ∧ j ≤ n ∧ x = .int .i64 i ∧ y = .int .i64 j ∧ n = L.length ∧ L.take i = (l.take j).filter (keepK k) ∧ L.drop j = l.drop j ∧ wr.ownsRow base 82 2 (.slice (some ⟨g, 0, none⟩) n c) n (flat encP L) ∧ w.grownBy wr (some g)) (fun _ y _ => n - (intOf y).toNat)
    case atStart =>
      refine ⟨i0, i0 + 1, l, by omega, by omega, rfl, by go_num, HN.out, ?_, rfl, HO1.out, HB.out⟩
      have hi := hi0
      rw [HN.out] at hi
      have h2 := HD.out
      rw [List.getElem?_eq_getElem hi, Option.map_some, Option.some.injEq] at h2
      rw [List.take_succ_eq_append_getElem hi, List.filter_append, List.filter_eq_self.2 HA.out, List.filter_cons, if_neg (by rw [h2]; simp)]
      simp
    case round =>
      obtain ⟨i, j, L, hij, hj, rfl, rfl, hnl, htk, hdr, hoL, hgr⟩ := hrel
      have hsw := hgr.size
      by_cases hlt : j < n
      · have hjL : j < L.length := by omega
        have hjl : j < l.length := by rw [← HN.out]; omega
        have hel : L[j] = l[j] := by
          have h1 : (L.drop j)[0]? = (l.drop j)[0]? := by rw [hdr]
          rw [List.getElem?_drop, List.getElem?_drop] at h1
          simp only [Nat.add_zero] at h1
          rw [List.getElem?_eq_getElem hjL, List.getElem?_eq_getElem hjl, Option.some.injEq] at h1
          exact h1
        obtain ⟨ad, e1, hbl, hca, hcb⟩ := (Rd.own hoL).pr hjL
        simp only [Option.some.injEq] at e1
        subst e1
        have hck : wr.cell? ⟨b, 0, none⟩ = some (.string k) := (World.cell?_of_block (hgr.block b (by omega) (by simp; omega))).trans HC.out
        obtain ⟨x, hx⟩ : ∃ x, x = L[j] := ⟨_, rfl⟩
        rw [← hx] at hca hcb
        simp only [addr_lit, Nat.zero_add] at hca hcb
        have hba : Below wr.heap.size wr (wr.alloc (.cells #[.string x.1, .string x.2] 82)) := by repeat (first | exact Below.refl _ _ | assumption | refine Below.drew ?_ | refine below_drewN ?_ _ | refine Below.setCell ?_ (by first | exact Nat.le_refl _ | exact Below.size (by assumption) | (simp; done) | (simp; omega) | omega) _ | refine Below.alloc ?_ (by first | exact Nat.le_refl _ | exact Below.size (by assumption) | (simp; done) | (simp; omega) | omega) _)
        have hck2 := (hba.cell (p := ⟨b, 0, none⟩) (show b < wr.heap.size by omega)).trans hck
        have hO2 := own_below hoL hba
        have HK := Lib.hid hck2
        have HO2 := Lib.hid hO2
        have hxj : l[j]? = some x := by rw [List.getElem?_eq_getElem hjl, ← hel, hx]
        have HX := Lib.hid (And.intro hxj (And.intro htk (And.intro hdr hnl)))
        clear hxj
        have HG := Lib.hid hgr
        have HBA := Lib.hid hba
        have hsz : (wr.alloc (.cells #[.string x.1, .string x.2] 82)).heap.size = wr.heap.size + 1 := by simp
        have hwj : IntKind.i64.wrap ((j : Int) + 1) = (j : Int) + 1 := IntWalk.i64_in _ (by omega)
        have hwi : IntKind.i64.wrap ((i : Int) + 1) = (i : Int) + 1 := IntWalk.i64_in _ (by omega)
        clear hx hel htk hdr hnl hck hck2 hoL hgr hO2 hba hjL hjl
        cases hkp : keepK k x with
        | true =>
          have HP := Lib.hid hkp
          clear hkp
          go_wp2_with fail
          refine (notUnder_any x b k _ HK.out (by simp; omega)).mono ?_
          rw [HP.out]
          rintro e w2 ⟨rfl, hb2⟩
          have hbs := hb2.size
          rw [hsz] at hbs
          have hn0 : w2.cell? ⟨wr.heap.size, 0, none⟩ = some (.string x.1) := (hb2.cell (p := ⟨wr.heap.size, 0, none⟩) (by simp)).trans (by rw [cell_of_row _ _ 0 _ _ _ (heap_alloc_new _ _)]; rfl)
          have hn1' : w2.cell? ⟨wr.heap.size, 1, none⟩ = some (.string x.2) := (hb2.cell (p := ⟨wr.heap.size, 1, none⟩) (by simp)).trans (by rw [cell_of_row _ _ 1 _ _ _ (heap_alloc_new _ _)]; rfl)
          have ho3 := own_below HO2.out hb2
          have hfl : (flat encP L).length = n * 2 := ho3.1
          have hce0 : ∃ u, w2.cell? ⟨g, i * 2, none⟩ = some u := by
            rw [ho3.cellAt (i * 2) (by omega)]
            exact ⟨_, List.getElem?_eq_getElem (by omega)⟩
          have hce1 : ∃ u, w2.cell? ⟨g, i * 2 + 1, none⟩ = some u := by
            rw [ho3.cellAt (i * 2 + 1) (by omega)]
            exact ⟨_, List.getElem?_eq_getElem (by omega)⟩
          obtain ⟨u0, hcu0⟩ := hce0
          obtain ⟨u1, hcu1⟩ := hce1
          have hfr0 := ho3.frozenAt (i * 2)
          have hfr1 := ho3.frozenAt (i * 2 + 1)
          have hin : i < n := by omega
          have HO3 := Lib.hid ho3
          have HF := Lib.hid hfl
          have HB2 := Lib.hid (grown_after (grown_after HG.out (grown_below HBA.out (some g))) (grown_below hb2 (some g)))
          clear ho3 hfl hca hcb hb2
          go_wp2
          go_roundw
          case rel =>
            obtain ⟨hxj, htk, hdr, hnl⟩ := HX.out
            have hfit := HF.out
            have h := own_setCells (w := w2) [.string x.1, .string x.2] (i * 2) _ _ HO3.out (by simp only [List.length_cons, List.length_nil]; omega)
            rw [flat_set L i x (by omega)] at h
            refine ⟨i + 1, j + 1, L.set i x, by omega, hlt, by go_num, by go_num, by simpa using hnl, ?_, ?_, h.1, grown_after HB2.out h.2⟩
            · have hjl : j < l.length := by rw [← HN.out]; exact hlt
              rw [take_set_lt L i x (by omega), htk, List.take_succ_eq_append_getElem hjl, List.filter_append]
              have e : x = l[j] := by rw [List.getElem?_eq_getElem hjl, Option.some.injEq] at hxj; exact hxj.symm
              rw [← e, List.filter_cons, if_pos HP.out]
              rfl
            · rw [List.drop_set_of_lt (by omega), ← List.drop_drop, hdr, List.drop_drop]
          case measure => simp [intOf]; omega
        | false =>
          have HP := Lib.hid hkp
          clear hkp
          go_wp2_with fail
          refine (notUnder_any x b k _ HK.out (by simp; omega)).mono ?_
          rw [HP.out]
          rintro e w2 ⟨rfl, hb2⟩
          have HO3 := Lib.hid (own_below HO2.out hb2)
          have HB2 := Lib.hid (grown_after (grown_after HG.out (grown_below HBA.out (some g))) (grown_below hb2 (some g)))
          clear hca hcb hb2
          go_wp2_with fail
          go_roundw
          case rel =>
            obtain ⟨hxj, htk, hdr, hnl⟩ := HX.out
            refine ⟨i, j + 1, L, by omega, hlt, rfl, by go_num, hnl, ?_, ?_, HO3.out, HB2.out⟩
            · have hjl : j < l.length := by rw [← HN.out]; exact hlt
              have e : x = l[j] := by rw [List.getElem?_eq_getElem hjl, Option.some.injEq] at hxj; exact hxj.symm
              rw [htk, List.take_succ_eq_append_getElem hjl, List.filter_append, ← e, List.filter_cons, if_neg (by rw [HP.out]; simp)]
              simp
            · rw [← List.drop_drop, hdr, List.drop_drop]
          case measure => simp [intOf]; omega
      · obtain rfl : j = n := by omega
        rcases hoL.2 with ⟨h', _⟩ | ⟨g', cap', cur, h', hbg2, hg, hnc2, hcm, hcs, htake⟩
        · simp at h'
        simp only [Value.slice.injEq, Option.some.injEq, Addr.mk.injEq, and_true, true_and] at h'
        obtain ⟨rfl, rfl⟩ := h'
        have hcl : cur.toList.length = c * 2 := by simpa using hcs
        have HE : Hid (L.take i = l.filter (keepK k)) := by
          show _ = _
          rw [htk, List.take_of_length_le (by rw [← HN.out]; exact Nat.le_refl _)]
        have HLN : Hid ((l.filter (keepK k)).length = i) := by
          show _ = _
          rw [← HE.out, List.length_take]
          omega
        have hzl : (Builtin.zeroCells (Value.agg #[.string ⟨#[]⟩, .string ⟨#[]⟩]).cells (j - i)).toList.length = (j - i) * 2 := by rw [Array.length_toList]; exact zero_len _
        obtain ⟨C, hC⟩ : ∃ C : List Value, C = cur.toList.take (i * 2) ++ (Builtin.zeroCells (Value.agg #[.string ⟨#[]⟩, .string ⟨#[]⟩]).cells (j - i)).toList ++ cur.toList.drop (i * 2 + (Builtin.zeroCells (Value.agg #[.string ⟨#[]⟩, .string ⟨#[]⟩]).cells (j - i)).toList.length) := ⟨_, rfl⟩
        have hclr : ∀ ty d, (Builtin.clear_ #[59] ty #[.slice (some ⟨g, i * 2, none⟩) (j - i) d]).run Try.prog wr = .ok (.tuple #[]) (wr.setRow g C.toArray) := fun ty d => by
          have h := run_clear_rowK (P := Try.prog) wr 59 82 ty _ cur g (i * 2) (j - i) d 82 Try.underlying59 zeroPair (by
            exact zero_one _) (by omega) hg (by rw [hzl]; omega)
          rw [h, hC]
        have HOWN : Hid ((wr.setRow g C.toArray).ownsRow base 82 2 (.slice (some ⟨g, 0, none⟩) i c) i (flat encP (l.filter (keepK k)))) := by
          have hfi : (flat encP (L.take i)).length = i * 2 := by rw [flat_length encP_len, List.length_take, Nat.min_eq_left (by omega)]
          rw [← HE.out]
          refine ⟨hfi, .inr ⟨g, c, _, rfl, hbg, setRow_heap wr g cur _ _ _ hg, by omega, hcm, ?_, ?_⟩⟩
          · simp only [List.size_toArray, hC, List.length_append, List.length_take, List.length_drop, hcl, hzl]
            omega
          · rw [hC, List.toList_toArray, List.append_assoc, List.take_append_of_le_length (by rw [List.length_take, hcl]; omega), List.take_take, Nat.min_self]
            have e : cur.toList.take (i * 2) = (flat encP L).take (i * 2) := by rw [← htake, List.take_take, Nat.min_eq_left (by omega)]
            rw [e, flat_take L i (by omega)]
        have HGR := Lib.hid (grown_after hgr (grown_setRow wr g C.toArray))
        have HCL := Lib.hid hclr
        have hci : ¬ (c = i) := by omega
        have hij' : i ≤ j := by omega
        have hic : i ≤ c := by omega
        clear hclr hC hzl hcl htake hcs hg hoL hgr htk hdr hnl
        go_wp2_with (refine wpList_clear_runI _ rfl _ 59 rfl _ rfl (HCL.out _ _) ?_)
        go_ret
        exact ⟨_, rfl, by rw [HLN.out]; exact HOWN.out, HGR.out⟩
end Go.Proofs.Ytlfnpnkpjdmonaa
namespace Go.Proofs.Ytlfnpnkpjdmonaa
open Go.RowKit

/-! ### the document's pair operations -/
theorem atP_at (l : List Pr) (k : ByteArray) (h : atP l k < l.length) : lt l[atP l k].1 k = false := by
  induction l with
  | nil => simp at h
  | cons p l ih =>
    by_cases h1 : lt p.1 k = true
    · have e : atP (p :: l) k = atP l k + 1 := by simp [atP, h1]
      have h2 : atP l k < l.length := by rw [e] at h; simpa using h
      have e2 : (p :: l)[atP (p :: l) k] = l[atP l k] := by simp [e]
      rw [e2]
      exact ih h2
    · have e : atP (p :: l) k = 0 := by simp [atP, h1]
      have e2 : (p :: l)[atP (p :: l) k] = p := by simp [e]
      rw [e2]
      simpa using h1
theorem atP_stop {l : List Pr} {k : ByteArray} {j : Nat} (hj : j ≤ l.length) (h1 : ∀ i (h : i < l.length), i < j → lt l[i].1 k = true) (h2 : ∀ h : j < l.length, lt l[j].1 k = false) : j = atP l k := by
  have h3 := atP_le l k
  rcases Nat.lt_trichotomy j (atP l k) with h | h | h
  · have h4 := atP_below l k j (by omega) h
    rw [h2 (by omega)] at h4
    cases h4
  · exact h
  · have h4 := atP_at l k (by omega)
    rw [h1 _ (by omega) h] at h4
    cases h4
set_option maxRecDepth 100000 in
theorem l01At_any (A : Option Addr) (c : Nat) (l : List Pr) (k : ByteArray) (w : World) (hx : Rd w w.heap.size A (flat encP l)) (hl : l.length ≤ 1048576) :
    Calls Try.prog 206 #[.slice A l.length c, .string k] w fun e w' => e = .returned (.int .i64 (atP l k)) ∧ w = w' := by
  have HX := Lib.hid hx
  clear hx
  go_enter Try.func206, Try.ntmps206
  go_wp2
  go_loopw [5] (fun a wr => ∃ j : Nat, j ≤ l.length ∧ a = .int .i64 j ∧ (∀ i (h : i < l.length), i < j → lt l[i].1 k = true) ∧ wr = w) (fun a _ => l.length - (intOf a).toNat)
  case atStart => exact ⟨0, Nat.zero_le _, rfl, fun i _ h => by omega, rfl⟩
  case round =>
    obtain ⟨j, hj, rfl, hall, rfl⟩ := hrel
    have HA := Lib.hid hall
    clear hall
    by_cases hlt : j < l.length
    · obtain ⟨ad, rfl, hbl, hca, hcb⟩ := HX.out.pr hlt
      cases hk : lt l[j].1 k with
      | true =>
        have hk2 : Op.bytesLess l[j].1.toList k.toList = true := hk
        have HK := Lib.hid hk
        clear hk
        go_wp2_with fail
        go_roundw
        case rel =>
          refine ⟨j + 1, hlt, by go_num, fun i hi hij => ?_, by first | rfl | trivial⟩
          rcases Nat.lt_or_ge i j with h | h
          · exact HA.out i hi h
          · obtain rfl : i = j := by omega
            exact HK.out
        case measure => simp [intOf]; omega
      | false =>
        have hk2 : Op.bytesLess l[j].1.toList k.toList = false := hk
        have HK := Lib.hid (atP_stop hj HA.out (fun _ => hk))
        clear hk
        go_wp2_with fail
        go_ret
        exact ⟨by rw [← HK.out]; rfl, rfl⟩
    · have HK := Lib.hid (atP_stop hj HA.out (fun h => absurd h hlt))
      go_wp2_with fail
      go_ret
      exact ⟨by rw [← HK.out]; rfl, rfl⟩
theorem Rd.none_nil {w : World} {B : Nat} {xs : List Value} (h : Rd w B none xs) : xs = [] := by
  by_cases hn : xs = []
  · exact hn
  · obtain ⟨ad, e, _⟩ := h hn
    cases e
theorem rd_cutP {w : World} {B g c : Nat} {l : List Pr} (h : Rd w B (some ⟨g, 0, none⟩) (flat encP l)) (hc : l.length ≤ c) (i : Nat) : Rd w B (if c = i then some ⟨g, 0, none⟩ else some ⟨g, i * 2, none⟩) (flat encP (l.drop i)) := by
  have h2 := h.cut (i * 2) (c = i) (fun e => by rw [flat_length encP_len]; omega)
  rw [flat_drop] at h2
  simpa only [Option.map_some, addr_lit, Nat.zero_add] using h2
theorem own_some {w : World} {base : Nat} {l : List Pr} {v : Value} (h : w.ownsRow base 82 2 v l.length (flat encP l)) (h0 : 0 < l.length) : ∃ g c, v = .slice (some ⟨g, 0, none⟩) l.length c ∧ l.length ≤ c := by
  rcases h.2 with ⟨h', h1⟩ | ⟨g, cap, cur, h', _, _, h2, _⟩
  · omega
  · exact ⟨g, cap, h', h2⟩
def MadeP (l : List Pr) (w : World) (e : Ending) (w' : World) : Prop := ∃ v, e = .returned v ∧ w'.ownsRow w.heap.size 82 2 v l.length (flat encP l) ∧ Below w.heap.size w w'
theorem neL {a b : ByteArray} (h : a ≠ b) : (a.toList == b.toList) = false ∧ (a.toList != b.toList) = true := by
  have h1 : (a.toList == b.toList) = false := by
    rw [beq_eq_false_iff_ne]
    intro e
    exact h (bytes_of_eq (by simp [e]))
  exact ⟨h1, by simp [bne, h1]⟩
theorem own_to {w : World} {base : Nat} {e : TypeId} {size n m : Nat} {v : Value} {xs ys : List Value} (h : w.ownsRow base e size v n xs) (e1 : n = m) (e2 : xs = ys) : w.ownsRow base e size v m ys := by
  subst e1 e2
  exact h
set_option maxRecDepth 100000 in
set_option maxHeartbeats 4000000 in
theorem l01Put_any (g c : Nat) (l : List Pr) (k x : ByteArray) (w : World) (hx : Rd w w.heap.size (some ⟨g, 0, none⟩) (flat encP l)) (hl : l.length ≤ 1048575) (hc : l.length ≤ c) :
    Calls Try.prog 139 #[.slice (some ⟨g, 0, none⟩) l.length c, .string k, .string x] w (MadeP (putP l k x) w) := by
  obtain ⟨I, hI⟩ : ∃ I, I = atP l k := ⟨_, rfl⟩
  have hIl : I ≤ l.length := by rw [hI]; exact atP_le l k
  have hb0 : Below w.heap.size w (w.alloc (.cells #[] 82)) := by repeat (first | exact Below.refl _ _ | assumption | refine Below.drew ?_ | refine below_drewN ?_ _ | refine Below.setCell ?_ (by first | exact Nat.le_refl _ | exact Below.size (by assumption) | (simp; done) | (simp; omega) | omega) _ | refine Below.alloc ?_ (by first | exact Nat.le_refl _ | exact Below.size (by assumption) | (simp; done) | (simp; omega) | omega) _)
  have HB0 := Lib.hid hb0
  have H0 : Hid ((w.alloc (.cells #[] 82)).ownsRow w.heap.size 82 2 (.slice (some ⟨w.heap.size, 0, none⟩) 0 0) 0 []) := own_empty_at (Nat.le_refl _) (heap_alloc_new _ _)
  have HC := Lib.hid (l01At_any (some ⟨g, 0, none⟩) c l k w hx (by omega))
  rw [← hI] at HC
  have hIc : I ≤ c := by omega
  have HT : Hid (Rd w w.heap.size (some ⟨g, 0, none⟩) (flat encP (l.take I))) := by
    have h := hx.take (I * 2)
    rw [flat_take l I hIl] at h
    exact h
  clear hb0
  cases hh : hitP l k with
  | true =>
    obtain ⟨hlt, hkey⟩ := mem_of_hit hh
    simp only [← hI] at hkey
    rw [← hI] at hlt
    obtain ⟨hca, hcb⟩ : w.cell? ⟨g, I * 2, none⟩ = some (.string l[I].1) ∧ w.cell? ⟨g, I * 2 + 1, none⟩ = some (.string l[I].2) := by
      obtain ⟨ad, e, _, h1, h2⟩ := hx.pr hlt
      injection e with e
      subst e
      simpa only [addr_lit, Nat.zero_add] using And.intro h1 h2
    rw [hkey] at hca
    have HR : Hid (Rd w w.heap.size (if c = I + 1 then some ⟨g, 0, none⟩ else some ⟨g, (I + 1) * 2, none⟩) (flat encP (l.drop (I + 1)))) := rd_cutP hx hc (I + 1)
    have HE : Hid (putP l k x = l.take I ++ (k, x) :: l.drop (I + 1)) := by
      show _ = _
      unfold putP
      rw [hh, ← hI]
      rfl
    have HL : Hid ((putP l k x).length = I + 1 + (l.length - (I + 1))) := by
      show _ = _
      rw [HE.out]
      simp only [List.length_append, List.length_take, List.length_cons, List.length_drop]
      omega
    have hw1 : IntKind.i64.wrap ((I : Int) + 1) = (I : Int) + 1 := IntWalk.i64_in _ (by omega)
    have hw2 : (0 : Int) ≤ (I : Int) + 1 := by omega
    have hw3 : ((I : Int) + 1).toNat = I + 1 := by omega
    have hw4 : (I : Int) + 1 ≤ (l.length : Int) := by omega
    have hw5 : I + 1 ≤ l.length := by omega
    have hw6 : I + 1 ≤ c := by omega
    clear hx hI hh hkey
    by_cases hci : c = I + 1
    · rw [if_pos hci] at HR
      subst hci
      go_enter Try.func139, Try.ntmps139
      go_wp2_with fail
      refine HC.out.mono ?_
      rintro e w1 ⟨rfl, rfl⟩
      go_wp2_with (at_builtin; refine push_row elPair rfl _ _ rfl w.heap.size _ 0 [] rfl H0.out w.heap.size (some ⟨g, 0, none⟩) I (I + 1) (flat encP (l.take I)) rfl (HT.out.below HB0.out) (by rw [flat_length encP_len, List.length_take, Nat.min_eq_left (by omega)]) (pr_one _) (by simp only [maxLen]; omega) (by omega) (by simp) (fun h => by cases h) ?_)
      intro v2 w2 hp
      have hbA := hp.below H0.out HB0.out (by simp)
      have HP := Lib.hid hp.1
      have HBA := Lib.hid hbA
      have hs2 := hbA.size
      clear hp hbA
      go_wp2_with (at_builtin; refine push_one elPair rfl _ _ rfl w.heap.size v2 I (flat encP (l.take I)) rfl (by simpa using HP.out) [.string k, .string x] _ rfl rfl rfl (by simp [Value.oneCell']) (by simp only [maxLen]; omega) (by omega) hs2 ?_)
      intro v3 w3 hp
      have hbC := hp.below HP.out HBA.out hs2
      have HP2 := Lib.hid hp.1
      have HBC := Lib.hid hbC
      have hs3 := hbC.size
      clear hp hbC
      go_wp2_with (at_builtin; refine push_row elPair rfl _ _ rfl w.heap.size v3 (I + 1) _ rfl HP2.out w.heap.size _ _ _ (flat encP (l.drop (I + 1))) rfl (HR.out.below HBC.out) (by have h := flat_length encP_len (l.drop (I + 1)); rw [List.length_drop] at h; omega) (pr_one _) (by simp only [maxLen]; omega) (by omega) hs3 (fun h => by cases h) ?_)
      intro v4 w4 hp
      have hbD := hp.below HP2.out HBC.out hs3
      have HP3 := Lib.hid hp.1
      clear hp
      go_wp2_with fail
      go_ret
      refine ⟨v4, rfl, ?_, hbD⟩
      rw [HL.out, HE.out, flat_append, flat_cons, ← List.append_assoc]
      exact own_to HP3.out (by omega) (by simp [encP])
    · rw [if_neg hci] at HR
      go_enter Try.func139, Try.ntmps139
      go_wp2_with fail
      refine HC.out.mono ?_
      rintro e w1 ⟨rfl, rfl⟩
      go_wp2_with (at_builtin; refine push_row elPair rfl _ _ rfl w.heap.size _ 0 [] rfl H0.out w.heap.size (some ⟨g, 0, none⟩) I c (flat encP (l.take I)) rfl (HT.out.below HB0.out) (by rw [flat_length encP_len, List.length_take, Nat.min_eq_left (by omega)]) (pr_one _) (by simp only [maxLen]; omega) (by omega) (by simp) (fun h => by cases h) ?_)
      intro v2 w2 hp
      have hbA := hp.below H0.out HB0.out (by simp)
      have HP := Lib.hid hp.1
      have HBA := Lib.hid hbA
      have hs2 := hbA.size
      clear hp hbA
      go_wp2_with (at_builtin; refine push_one elPair rfl _ _ rfl w.heap.size v2 I (flat encP (l.take I)) rfl (by simpa using HP.out) [.string k, .string x] _ rfl rfl rfl (by simp [Value.oneCell']) (by simp only [maxLen]; omega) (by omega) hs2 ?_)
      intro v3 w3 hp
      have hbC := hp.below HP.out HBA.out hs2
      have HP2 := Lib.hid hp.1
      have HBC := Lib.hid hbC
      have hs3 := hbC.size
      clear hp hbC
      go_wp2_with (at_builtin; refine push_row elPair rfl _ _ rfl w.heap.size v3 (I + 1) _ rfl HP2.out w.heap.size _ _ _ (flat encP (l.drop (I + 1))) rfl (HR.out.below HBC.out) (by have h := flat_length encP_len (l.drop (I + 1)); rw [List.length_drop] at h; omega) (pr_one _) (by simp only [maxLen]; omega) (by omega) hs3 (fun h => by cases h) ?_)
      intro v4 w4 hp
      have hbD := hp.below HP2.out HBC.out hs3
      have HP3 := Lib.hid hp.1
      clear hp
      go_wp2_with fail
      go_ret
      refine ⟨v4, rfl, ?_, hbD⟩
      rw [HL.out, HE.out, flat_append, flat_cons, ← List.append_assoc]
      exact own_to HP3.out (by omega) (by simp [encP])
  | false =>
    have hne : ∀ h : I < l.length, (l[I].1.toList == k.toList) = false := fun h => by
      have h2 := hitP_eq l k
      rw [hh, dif_pos (by rw [← hI]; exact h)] at h2
      simp only [← hI] at h2
      exact (neL (of_decide_eq_false h2.symm)).1
    have HR : Hid (Rd w w.heap.size (if c = I then some ⟨g, 0, none⟩ else some ⟨g, I * 2, none⟩) (flat encP (l.drop I))) := rd_cutP hx hc I
    have HE : Hid (putP l k x = l.take I ++ (k, x) :: l.drop I) := by
      show _ = _
      unfold putP
      rw [hh, ← hI]
      rfl
    have HL : Hid ((putP l k x).length = I + 1 + (l.length - I)) := by
      show _ = _
      rw [HE.out]
      simp only [List.length_append, List.length_take, List.length_cons, List.length_drop]
      omega
    by_cases hlt : I < l.length
    · obtain ⟨hca, hcb⟩ : w.cell? ⟨g, I * 2, none⟩ = some (.string l[I].1) ∧ w.cell? ⟨g, I * 2 + 1, none⟩ = some (.string l[I].2) := by
        obtain ⟨ad, e, _, h1, h2⟩ := hx.pr hlt
        injection e with e
        subst e
        simpa only [addr_lit, Nat.zero_add] using And.intro h1 h2
      have hn := hne hlt
      have hci : ¬ c = I := by omega
      rw [if_neg hci] at HR
      clear hx hI hh hne
      go_enter Try.func139, Try.ntmps139
      go_wp2_with fail
      refine HC.out.mono ?_
      rintro e w1 ⟨rfl, rfl⟩
      go_wp2_with (at_builtin; refine push_row elPair rfl _ _ rfl w.heap.size _ 0 [] rfl H0.out w.heap.size (some ⟨g, 0, none⟩) I c (flat encP (l.take I)) rfl (HT.out.below HB0.out) (by rw [flat_length encP_len, List.length_take, Nat.min_eq_left (by omega)]) (pr_one _) (by simp only [maxLen]; omega) (by omega) (by simp) (fun h => by cases h) ?_)
      intro v2 w2 hp
      have hbA := hp.below H0.out HB0.out (by simp)
      have HP := Lib.hid hp.1
      have HBA := Lib.hid hbA
      have hs2 := hbA.size
      clear hp hbA
      go_wp2_with (at_builtin; refine push_one elPair rfl _ _ rfl w.heap.size v2 I (flat encP (l.take I)) rfl (by simpa using HP.out) [.string k, .string x] _ rfl rfl rfl (by simp [Value.oneCell']) (by simp only [maxLen]; omega) (by omega) hs2 ?_)
      intro v3 w3 hp
      have hbC := hp.below HP.out HBA.out hs2
      have HP2 := Lib.hid hp.1
      have HBC := Lib.hid hbC
      have hs3 := hbC.size
      clear hp hbC
      go_wp2_with (at_builtin; refine push_row elPair rfl _ _ rfl w.heap.size v3 (I + 1) _ rfl HP2.out w.heap.size _ _ _ (flat encP (l.drop I)) rfl (HR.out.below HBC.out) (by have h := flat_length encP_len (l.drop I); rw [List.length_drop] at h; omega) (pr_one _) (by simp only [maxLen]; omega) (by omega) hs3 (fun h => by cases h) ?_)
      intro v4 w4 hp
      have hbD := hp.below HP2.out HBC.out hs3
      have HP3 := Lib.hid hp.1
      clear hp
      go_wp2_with fail
      go_ret
      refine ⟨v4, rfl, ?_, hbD⟩
      rw [HL.out, HE.out, flat_append, flat_cons, ← List.append_assoc]
      exact own_to HP3.out (by omega) (by simp [encP])
    · obtain rfl : I = l.length := by omega
      have hdi : decide ((l.length : Int) < (l.length : Int)) = false := by simp
      clear hx hI hh hne hlt
      by_cases hci : c = l.length
      · rw [if_pos hci] at HR
        subst hci
        go_enter Try.func139, Try.ntmps139
        go_wp2_with fail
        refine HC.out.mono ?_
        rintro e w1 ⟨rfl, rfl⟩
        go_wp2_with (at_builtin; refine push_row elPair rfl _ _ rfl w.heap.size _ 0 [] rfl H0.out w.heap.size (some ⟨g, 0, none⟩) l.length l.length (flat encP (l.take l.length)) rfl (HT.out.below HB0.out) (by rw [flat_length encP_len, List.length_take, Nat.min_eq_left (by omega)]) (pr_one _) (by simp only [maxLen]; omega) (by omega) (by simp) (fun h => by cases h) ?_)
        intro v2 w2 hp
        have hbA := hp.below H0.out HB0.out (by simp)
        have HP := Lib.hid hp.1
        have HBA := Lib.hid hbA
        have hs2 := hbA.size
        clear hp hbA
        go_wp2_with (at_builtin; refine push_one elPair rfl _ _ rfl w.heap.size v2 l.length (flat encP (l.take l.length)) rfl (by simpa using HP.out) [.string k, .string x] _ rfl rfl rfl (by simp [Value.oneCell']) (by simp only [maxLen]; omega) (by omega) hs2 ?_)
        intro v3 w3 hp
        have hbC := hp.below HP.out HBA.out hs2
        have HP2 := Lib.hid hp.1
        have HBC := Lib.hid hbC
        have hs3 := hbC.size
        clear hp hbC
        go_wp2_with (at_builtin; refine push_row elPair rfl _ _ rfl w.heap.size v3 (l.length + 1) _ rfl HP2.out w.heap.size _ _ _ (flat encP (l.drop l.length)) rfl (HR.out.below HBC.out) (by have h := flat_length encP_len (l.drop l.length); rw [List.length_drop] at h; omega) (pr_one _) (by simp only [maxLen]; omega) (by omega) hs3 (fun h => by cases h) ?_)
        intro v4 w4 hp
        have hbD := hp.below HP2.out HBC.out hs3
        have HP3 := Lib.hid hp.1
        clear hp
        go_wp2_with fail
        go_ret
        refine ⟨v4, rfl, ?_, hbD⟩
        rw [HL.out, HE.out, flat_append, flat_cons, ← List.append_assoc]
        exact own_to HP3.out (by omega) (by simp [encP])
      · rw [if_neg hci] at HR
        go_enter Try.func139, Try.ntmps139
        go_wp2_with fail
        refine HC.out.mono ?_
        rintro e w1 ⟨rfl, rfl⟩
        go_wp2_with (at_builtin; refine push_row elPair rfl _ _ rfl w.heap.size _ 0 [] rfl H0.out w.heap.size (some ⟨g, 0, none⟩) l.length c (flat encP (l.take l.length)) rfl (HT.out.below HB0.out) (by rw [flat_length encP_len, List.length_take, Nat.min_eq_left (by omega)]) (pr_one _) (by simp only [maxLen]; omega) (by omega) (by simp) (fun h => by cases h) ?_)
        intro v2 w2 hp
        have hbA := hp.below H0.out HB0.out (by simp)
        have HP := Lib.hid hp.1
        have HBA := Lib.hid hbA
        have hs2 := hbA.size
        clear hp hbA
        go_wp2_with (at_builtin; refine push_one elPair rfl _ _ rfl w.heap.size v2 l.length (flat encP (l.take l.length)) rfl (by simpa using HP.out) [.string k, .string x] _ rfl rfl rfl (by simp [Value.oneCell']) (by simp only [maxLen]; omega) (by omega) hs2 ?_)
        intro v3 w3 hp
        have hbC := hp.below HP.out HBA.out hs2
        have HP2 := Lib.hid hp.1
        have HBC := Lib.hid hbC
        have hs3 := hbC.size
        clear hp hbC
        go_wp2_with (at_builtin; refine push_row elPair rfl _ _ rfl w.heap.size v3 (l.length + 1) _ rfl HP2.out w.heap.size _ _ _ (flat encP (l.drop l.length)) rfl (HR.out.below HBC.out) (by have h := flat_length encP_len (l.drop l.length); rw [List.length_drop] at h; omega) (pr_one _) (by simp only [maxLen]; omega) (by omega) hs3 (fun h => by cases h) ?_)
        intro v4 w4 hp
        have hbD := hp.below HP2.out HBC.out hs3
        have HP3 := Lib.hid hp.1
        clear hp
        go_wp2_with fail
        go_ret
        refine ⟨v4, rfl, ?_, hbD⟩
        rw [HL.out, HE.out, flat_append, flat_cons, ← List.append_assoc]
        exact own_to HP3.out (by omega) (by simp [encP])
end Go.Proofs.Ytlfnpnkpjdmonaa
