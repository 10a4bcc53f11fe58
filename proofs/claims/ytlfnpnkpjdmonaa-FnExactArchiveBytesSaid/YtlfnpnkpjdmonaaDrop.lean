import Derived.Test.YtlfnpnkpjdmonaaDelete
import Derived.Test.YtlfnpnkpjdmonaaPairLaw
set_option linter.unusedVariables false
set_option linter.unusedSimpArgs false
namespace Go.Proofs.Ytlfnpnkpjdmonaa
open Go.RowKit

/-! ### drop of a pair -/
set_option maxRecDepth 100000 in
set_option maxHeartbeats 1000000 in
theorem dropPair_any (base : Nat) (v : Value) (l : List Pr) (k : ByteArray) (w : World) (ho : w.ownsRow base 82 2 v l.length (flat encP l)) (hr : Rise l) (hl : l.length ≤ 1048575) (hb : base ≤ w.heap.size) :
    Calls Try.prog 140 #[v, .string k] w (InsPost base v (dropP l k) w) := by
  obtain ⟨I, hI⟩ : ∃ I, I = atP l k := ⟨_, rfl⟩
  have hIl : I ≤ l.length := by rw [hI]; exact atP_le l k
  cases hh : hitP l k with
  | true =>
    obtain ⟨hlt, hkey⟩ := mem_of_hit hh
    rw [← hI] at hlt
    have HE : Hid (delP l I = dropP l k) := by
      show _ = _
      rw [dropP_hit hr hh, ← hI]
      rfl
    clear hkey
    rcases ho.2 with ⟨h', h0⟩ | ⟨g, cap, cur, h', _⟩
    · omega
    subst h'
    have HC := Lib.hid (pairAt_any (some ⟨g, 0, none⟩) cap l k w (Rd.own ho) (by omega) hr)
    rw [← hI, hh] at HC
    obtain ⟨m, hm⟩ : ∃ m, m + 1 = l.length := ⟨l.length - 1, by omega⟩
    rw [← hm] at HC ho ⊢
    have HO := Lib.hid ho
    have HM := Lib.hid hm
    have hw1 : IntKind.i64.wrap ((I : Int) + 1) = (I : Int) + 1 := IntWalk.i64_in _ (by omega)
    have hm1 : m ≤ 1048574 := by omega
    have hIm : I < m + 1 := by omega
    clear ho hr hI hh hm hl hlt hIl
    go_enter Try.func140, Try.ntmps140
    go_wp2_with fail
    refine HC.out.mono ?_
    rintro e w1 ⟨rfl, hb1⟩
    have ho1 := own_below HO.out hb1
    have hbs := hb1.size
    have HB := Lib.hid (grown_below hb1 (some g))
    have HD := Lib.hid (delete_any base g cap m I l w1 HM.out ho1 hIm (by omega) (by omega))
    clear hb1 ho1
    go_wp2_with fail
    refine HD.out.mono ?_
    rintro e w2 ⟨v2, rfl, ho2, hg2⟩
    rw [HE.out] at ho2
    have HG := Lib.hid (grown_after HB.out hg2)
    have HO2 := Lib.hid ho2
    clear ho2 hg2
    go_wp2_with fail
    go_ret
    exact ⟨_, rfl, HO2.out, HG.out⟩
  | false =>
    obtain ⟨A, c, rfl, hnc⟩ := own_form ho
    have HC := Lib.hid (pairAt_any A c l k w (Rd.own ho) (by omega) hr)
    rw [← hI, hh] at HC
    have HO := Lib.hid ho
    have HE := Lib.hid (dropP_miss hr hh)
    clear ho hr hI hh
    go_enter Try.func140, Try.ntmps140
    go_wp2_with fail
    refine HC.out.mono ?_
    rintro e w1 ⟨rfl, hb1⟩
    have ho1 := own_below HO.out hb1
    have HB := Lib.hid (grown_below hb1 (Value.slice A l.length c).ownBlock)
    have HO1 := Lib.hid ho1
    clear hb1 ho1
    go_wp2_with fail
    go_ret
    exact ⟨_, rfl, by rw [HE.out]; exact HO1.out, HB.out⟩
end Go.Proofs.Ytlfnpnkpjdmonaa
