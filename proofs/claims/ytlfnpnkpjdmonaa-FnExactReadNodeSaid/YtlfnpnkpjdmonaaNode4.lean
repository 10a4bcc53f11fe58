import Derived.Test.YtlfnpnkpjdmonaaNode3
set_option linter.unusedVariables false
set_option linter.unusedSimpArgs false
namespace Go.Proofs.Ytlfnpnkpjdmonaa
open Go.RowKit

/-! ### an inner node out of fields -/
theorem lsM_len (xs : List (List UInt8)) : (lsM xs).length = xs.length := by simp [lsM]
theorem ksM_len (xs : List (List UInt8)) : (ksM xs).length = xs.length := by simp [ksM]
theorem lsM_snoc (xs : List (List UInt8)) (a : UInt8) (r : List UInt8) : lsM (xs ++ [a :: r]) = lsM xs ++ [bs r] := by simp [lsM]
theorem ksM_snoc (xs : List (List UInt8)) (a : UInt8) (r : List UInt8) : ksM (xs ++ [a :: r]) = ksM xs ++ [(a.toNat : Int)] := by simp [ksM]
theorem take_snoc {xs : List (List UInt8)} {k : Nat} (h : k < xs.length) : xs.take (k + 1) = xs.take k ++ [xs[k]] := by rw [List.take_add_one, List.getElem?_eq_getElem h]; rfl
theorem free_zero' (A B C : Option Addr) (ca nl cb nk cc : Nat) (w : World) (h1 : nl = 0) (h2 : nk = 0) : Calls Try.prog 172 #[ndV false A 0 ca B nl cb C nk cc] w fun e w' => e = .returned (.bool true) ∧ Below w.heap.size w w' := by
  subst h1 h2
  exact free_zero A B C ca cb cc w
set_option maxRecDepth 100000 in
set_option maxHeartbeats 16000000 in
theorem nodeOf_inner (A : Option Addr) (c : Nat) (xs : List (List UInt8)) (w : World) (hx : Rd w w.heap.size A (xs.map sv)) (hl : xs.length ≤ 255) :
    Calls Try.prog 221 #[.bool false, .slice A xs.length c] w (NOPost false xs w) := by
  have H0 : Hid (NB w ((w.alloc (.cells #[.bool false, .slice none 0 0, .slice none 0 0, .slice none 0 0] 96)).alloc (.cells #[.bool false, .slice none 0 0, .slice none 0 0, .slice none 0 0] 96)) (w.heap.size + 1) false (.slice none 0 0) (.slice none 0 0) (.slice none 0 0) (.slice none 0 0) [] (.slice none 0 0) (lsM (xs.take 0)) (.slice none 0 0) (ksM (xs.take 0))) := by
    refine ⟨?_, ?_, own_nilR _ _ _ _, own_nilR _ _ _ _, own_nilR _ _ _ _, by repeat (first | exact Below.refl _ _ | assumption | refine Below.drew ?_ | refine below_drewN ?_ _ | refine Below.setCell ?_ (by first | exact Nat.le_refl _ | exact Below.size (by assumption) | (simp; done) | (simp; omega) | omega) _ | refine Below.alloc ?_ (by first | exact Nat.le_refl _ | exact Below.size (by assumption) | (simp; done) | (simp; omega) | omega) _), Nat.lt_succ_self _⟩
    · exact (((Below.refl _ _).alloc (Nat.le_refl _) _ : Below (w.alloc (.cells #[.bool false, .slice none 0 0, .slice none 0 0, .slice none 0 0] 96)).heap.size _ _).block _ (by simp)).trans (heap_alloc_new _ _)
    · have := heap_alloc_new (w.alloc (.cells #[.bool false, .slice none 0 0, .slice none 0 0, .slice none 0 0] 96)) (.cells #[.bool false, .slice none 0 0, .slice none 0 0, .slice none 0 0] 96)
      simpa using this
  have HX := Lib.hid hx
  clear hx
  go_enter Try.func221, Try.ntmps221
  go_wp2_with fail
  go_loopw [46] (fun i wr => ∃ (k : Nat) (vL vK : Value), k ≤ xs.length ∧ i = .int .i64 k ∧ (xs.take k).any List.isEmpty = false ∧ NB w wr (w.heap.size + 1) false (.slice none 0 0) vL vK (.slice none 0 0) [] vL (lsM (xs.take k)) vK (ksM (xs.take k))) (fun i _ => xs.length - (intOf i).toNat)
  case atStart => exact ⟨0, .slice none 0 0, .slice none 0 0, Nat.zero_le _, rfl, rfl, H0.out⟩
  case round =>
    obtain ⟨k, vL, vK, hk, rfl, hye, hn⟩ := hrel
    have HN := Lib.hid hn
    have HYE := Lib.hid hye
    clear hn hye H0
    by_cases hlt : k < xs.length
    · obtain ⟨ad, rfl, hbl, hc⟩ := (HX.out.below HN.out.below).at_ (map_at (f := sv) hlt)
      have HTK := Lib.hid (take_snoc hlt)
      have HAN : Hid (xs[k] = [] → okNd false xs = false) := fun h => by
        have hm : xs.any List.isEmpty = true := List.any_eq_true.2 ⟨xs[k], List.getElem_mem hlt, by rw [h]; rfl⟩
        unfold okNd
        rw [if_neg (by simp), hm]
        rfl
      have HYL : Hid ((xs.take k).length ≤ 255) := by show _ ≤ _; rw [List.length_take]; omega
      generalize hgx : xs[k] = x at hc HTK HAN
      clear hgx
      cases x with
      | nil =>
        obtain ⟨r0, r1, r2, r3, rf⟩ := HN.out.resCells
        have rf0 := rf 0
        have rf1 := rf 1
        have rf2 := rf 2
        have rf3 := rf 3
        have HR := Lib.hid (HN.out.res4 (.bool false) (.slice none 0 0) (.slice none 0 0) (.slice none 0 0))
        go_wp2_with fail
        generalize ((((wr.setCell ⟨w.heap.size, 0, none⟩ (.bool false)).setCell ⟨w.heap.size, 1, none⟩ (.slice none 0 0)).setCell ⟨w.heap.size, 2, none⟩ (.slice none 0 0)).setCell ⟨w.heap.size, 3, none⟩ (.slice none 0 0)) = W5 at HR ⊢
        obtain ⟨h1, _, _, _, _, hbl⟩ := HR.out
        obtain ⟨z0, z1, z2, z3⟩ := nd_cells h1
        refine bodyPost_ret (v := .tuple #[ndV false none 0 0 none 0 0 none 0 0, .bool false]) (by simp [results, Try.results221, go_sem, z0, z1, z2, z3]) rfl ?_
        refine ⟨ndZ, none, 0, none, 0, none, 0, ?_, NdOwn.zero _ _, ?_, hbl⟩
        · rw [HAN.out (by first | rfl | trivial)]; rfl
        · intro h; rw [HAN.out (by first | rfl | trivial)] at h; cases h
      | cons a r =>
        generalize xs.take k = ys at *
        have e1 : ((bs (a :: r)).toList == []) = false := by rw [ByteArray.toList_mk]; rfl
        have e2 : (bs (a :: r)).extract 1 (r.length + 1) = bs r := by rw [bs_cut]; simp
        have e3 : (bs (a :: r)).size = r.length + 1 := by simp [ByteArray.size]
        have hg : (bs (a :: r))[0]'(by omega) = a := rfl
        have e4 : (1 : Int) ≤ (r.length : Int) + 1 := by omega
        have ha := a.toNat_lt
        have e5 : IntKind.i64.wrap (a.toNat : Int) = (a.toNat : Int) := IntWalk.i64_in _ (by omega)
        go_wp2_with fail
        refine wp_region_noPanic ?_
        refine wp_region_held_drew (S := fun _ => True) (by kernel_rfl) ?_ (fun hHeld => ?_)
        · (try dsimp only)
          try trivial
        have HN := Lib.hid HN.out.drew
        generalize wr.drew = W at HN hHeld ⊢
        refine wpAnyH_take (i := 0) (oi := ⟨some 53, _, _, _, _, _⟩) (v := ?_) rfl (by kernel_rfl) (by kernel_rfl) (by kernel_rfl) (fun _ _ _ h => h) (Or.inl ⟨by simp [Region.wanted, yielded, undef], ?_⟩) (by assumption) ?_
        rotate_left
        · ((intro w hSw; (try dsimp only at hSw); go_simp) <;> with_reducible rfl)
        (try simp only [Act.put, List.setIfInBounds_toArray, List.set_cons_zero, List.set_cons_succ])
        refine wpAnyH_take (i := 2) (oi := ⟨some 55, _, _, _, _, _⟩) (v := ?_) rfl (by kernel_rfl) (by kernel_rfl) (by kernel_rfl) (fun _ _ _ h => h) (Or.inl ⟨by simp [Region.wanted, yielded, undef], ?_⟩) (by assumption) ?_
        rotate_left
        · ((intro w hSw; (try dsimp only at hSw); go_simp) <;> with_reducible rfl)
        (try simp only [Act.put, List.setIfInBounds_toArray, List.set_cons_zero, List.set_cons_succ])
        refine wpAnyH_take (i := 3) (oi := ⟨some 56, _, _, _, _, _⟩) (v := ?_) rfl (by kernel_rfl) (by kernel_rfl) (by kernel_rfl) (fun _ _ _ h => h) (Or.inl ⟨by simp [Region.wanted, yielded, undef], ?_⟩) (by assumption) ?_
        rotate_left
        · ((intro w hSw; (try dsimp only at hSw); go_simp) <;> with_reducible rfl)
        (try simp only [Act.put, List.setIfInBounds_toArray, List.set_cons_zero, List.set_cons_succ])
        refine wpAnyH_take (i := 4) (oi := ⟨some 57, _, _, _, _, _⟩) (v := ?_) rfl (by kernel_rfl) (by kernel_rfl) (by kernel_rfl) (fun _ _ _ h => h) (Or.inl ⟨by simp [Region.wanted, yielded, undef], ?_⟩) (by assumption) ?_
        rotate_left
        · ((intro w hSw; (try dsimp only at hSw); go_simp) <;> with_reducible rfl)
        (try simp only [Act.put, List.setIfInBounds_toArray, List.set_cons_zero, List.set_cons_succ])
        refine wpAnyH_take (i := 7) (oi := ⟨some 60, _, _, _, _, _⟩) (v := ?_) rfl (by kernel_rfl) (by kernel_rfl) (by kernel_rfl) (fun _ _ _ h => h) (Or.inl ⟨by simp [Region.wanted, yielded, undef], ?_⟩) (by assumption) ?_
        rotate_left
        · ((intro w hSw; (try dsimp only at hSw); go_simp) <;> with_reducible rfl)
        (try simp only [Act.put, List.setIfInBounds_toArray, List.set_cons_zero, List.set_cons_succ])
        refine wpAnyH_take (i := 9) (oi := ⟨some 62, _, _, _, _, _⟩) (v := ?_) rfl (by kernel_rfl) (by kernel_rfl) (by kernel_rfl) (fun _ _ _ h => h) (Or.inl ⟨by simp [Region.wanted, yielded, undef], ?_⟩) (by assumption) ?_
        rotate_left
        · ((intro w hSw; (try dsimp only at hSw); go_simp) <;> with_reducible rfl)
        (try simp only [Act.put, List.setIfInBounds_toArray, List.set_cons_zero, List.set_cons_succ])
        refine wpAnyH_take (i := 10) (oi := ⟨some 63, _, _, _, _, _⟩) (v := ?_) rfl (by kernel_rfl) (by kernel_rfl) (by kernel_rfl) (fun _ _ _ h => h) (Or.inl ⟨by simp [Region.wanted, yielded, undef], ?_⟩) (by assumption) ?_
        rotate_left
        · ((intro w hSw; (try dsimp only at hSw); go_simp) <;> with_reducible rfl)
        (try simp only [Act.put, List.setIfInBounds_toArray, List.set_cons_zero, List.set_cons_succ])
        refine wpAnyH_ready (rs := [1, 5, 8, 11]) (by kernel_rfl) (by simp) ?_
        refine (AllReadyH.cons (o := ⟨some 54, _, _, _, _, _⟩) rfl (fun K hK => ?_) (AllReadyH.cons (o := ⟨some 58, _, _, _, _, _⟩) rfl (fun K hK => ?_) (AllReadyH.cons (o := ⟨some 61, _, _, _, _, _⟩) rfl (fun K hK => ?_) (AllReadyH.cons (o := ⟨some 64, _, _, _, _, _⟩) rfl (fun K hK => ?_) AllReadyH.nil))))
        have cx := HN.out.cells.2.2.2
        go_simp
        clear cx
        refine hK.out _ _ ?_ (fun hHeld => ?_)
        · (try dsimp only)
          try trivial
        clear hK K
        (try simp only [Act.put, List.setIfInBounds_toArray, List.set_cons_zero, List.set_cons_succ])
        refine wpAnyH_ready (rs := [5, 8, 11]) (by kernel_rfl) (by simp) ?_
        refine (AllReadyH.cons (o := ⟨some 58, _, _, _, _, _⟩) rfl (fun K hK => ?_) (AllReadyH.cons (o := ⟨some 61, _, _, _, _, _⟩) rfl (fun K hK => ?_) (AllReadyH.cons (o := ⟨some 64, _, _, _, _, _⟩) rfl (fun K hK => ?_) AllReadyH.nil)))
        go_simp
        refine hK.out _ _ ?_ (fun hHeld => ?_)
        · (try dsimp only)
          try trivial
        clear hK K
        (try simp only [Act.put, List.setIfInBounds_toArray, List.set_cons_zero, List.set_cons_succ])
        obtain ⟨V, hV⟩ : ∃ V : World, V = W.alloc (.cells #[.int .i64 (a.toNat : Int)] 3) := ⟨_, rfl⟩
        rw [← hV]
        have hbW : Below W.heap.size W V := by rw [hV]; exact (Below.refl _ _).alloc (Nat.le_refl _) _
        have HFI : Hid (V.heap[W.heap.size]? = some (.cells #[.int .i64 (a.toNat : Int)] 3 (0, 0))) := by rw [hV]; exact heap_alloc_new _ _
        have HN := Lib.hid (HN.out.old hbW)
        clear hV hbW
        generalize W.heap.size = gpos at HFI
        rename World => W
        refine wpAnyH_ready (rs := [6, 8, 11]) (by kernel_rfl) (by simp) ?_
        refine (AllReadyH.cons (o := ⟨some 59, _, _, _, _, _⟩) rfl (fun K hK => ?_) (AllReadyH.cons (o := ⟨some 61, _, _, _, _, _⟩) rfl (fun K hK => ?_) (AllReadyH.cons (o := ⟨some 64, _, _, _, _, _⟩) rfl (fun K hK => ?_) AllReadyH.nil)))
        refine step_push_one elInt rfl _ _ rfl w.heap.size vK (ksM ys).length ((ksM ys).map ivi) rfl HN.out.k _ [ivi (a.toNat : Int)] HFI.out rfl rfl (by simp [Value.oneCell']) (by rw [ksM_len]; have := HYL.out; simp only [maxLen]; omega) (by rw [ksM_len]; have := HYL.out; omega) (Nat.le_of_lt HN.out.rl) ?_
        intro v6 V hp
        obtain ⟨Ak, ck, rfl, _⟩ := own_form hp.1
        refine hK.out _ _ ?_ (fun hHeld => ?_)
        · (try dsimp only)
          try trivial
        clear hK K
        (try simp only [Act.put, List.setIfInBounds_toArray, List.set_cons_zero, List.set_cons_succ])
        have HN := Lib.hid (HN.out.pushK (z := (a.toNat : Int)) hp)
        clear hp
        rename World => W
        refine wpAnyH_ready (rs := [8, 11]) (by kernel_rfl) (by simp) ?_
        refine (AllReadyH.cons (o := ⟨some 61, _, _, _, _, _⟩) rfl (fun K hK => ?_) (AllReadyH.cons (o := ⟨some 64, _, _, _, _, _⟩) rfl (fun K hK => ?_) AllReadyH.nil))
        have cx := HN.out.cells.2.2.1
        go_simp
        clear cx
        refine hK.out _ _ ?_ (fun hHeld => ?_)
        · (try dsimp only)
          try trivial
        clear hK K
        (try simp only [Act.put, List.setIfInBounds_toArray, List.set_cons_zero, List.set_cons_succ])
        refine wpAnyH_take (i := 13) (oi := ⟨some 66, _, _, _, _, _⟩) (v := ?_) rfl (by kernel_rfl) (by kernel_rfl) (by kernel_rfl) (fun _ _ _ h => h) (Or.inl ⟨by simp [Region.wanted, yielded, undef], ?_⟩) (by assumption) ?_
        rotate_left
        · ((intro w hSw; (try dsimp only at hSw); go_simp) <;> with_reducible rfl)
        (try simp only [Act.put, List.setIfInBounds_toArray, List.set_cons_zero, List.set_cons_succ])
        refine wpAnyH_ready (rs := [11]) (by kernel_rfl) (by simp) ?_
        refine (AllReadyH.cons (o := ⟨some 64, _, _, _, _, _⟩) rfl (fun K hK => ?_) AllReadyH.nil)
        go_simp
        refine hK.out _ _ ?_ (fun hHeld => ?_)
        · (try dsimp only)
          try trivial
        clear hK K
        (try simp only [Act.put, List.setIfInBounds_toArray, List.set_cons_zero, List.set_cons_succ])
        obtain ⟨V, hV⟩ : ∃ V : World, V = W.alloc (.cells #[.string (bs r)] 9) := ⟨_, rfl⟩
        rw [← hV]
        have hbW : Below W.heap.size W V := by rw [hV]; exact (Below.refl _ _).alloc (Nat.le_refl _) _
        have HFL : Hid (V.heap[W.heap.size]? = some (.cells #[.string (bs r)] 9 (0, 0))) := by rw [hV]; exact heap_alloc_new _ _
        have HN := Lib.hid (HN.out.old hbW)
        clear hV hbW
        generalize W.heap.size = gpos at HFL
        rename World => W
        refine wpAnyH_ready (rs := [12]) (by kernel_rfl) (by simp) ?_
        refine (AllReadyH.cons (o := ⟨some 65, _, _, _, _, _⟩) rfl (fun K hK => ?_) AllReadyH.nil)
        refine step_push_one elStr rfl _ _ rfl w.heap.size vL (lsM ys).length ((lsM ys).map Value.string) rfl HN.out.s _ [.string (bs r)] HFL.out rfl rfl (by simp [Value.oneCell']) (by rw [lsM_len]; have := HYL.out; simp only [maxLen]; omega) (by rw [lsM_len]; have := HYL.out; omega) (Nat.le_of_lt HN.out.rl) ?_
        intro v7 V hp
        obtain ⟨Al, cl, rfl, _⟩ := own_form hp.1
        refine hK.out _ _ ?_ (fun hHeld => ?_)
        · (try dsimp only)
          try trivial
        clear hK K
        (try simp only [Act.put, List.setIfInBounds_toArray, List.set_cons_zero, List.set_cons_succ])
        have HN := Lib.hid (HN.out.pushL (x := bs r) hp)
        clear hp
        rename World => W
        refine wpAnyH_ready (rs := [14]) (by kernel_rfl) (by simp) ?_
        refine (AllReadyH.cons rfl (fun K hK => ?_) AllReadyH.nil)
        have cx := HN.out.cells.2.2.2
        have fx := HN.out.froz 3
        go_simp
        clear cx fx
        refine hK.out _ _ ?_ (fun hHeld => ?_)
        · (try dsimp only)
          try trivial
        clear hK K
        (try simp only [Act.put, List.setIfInBounds_toArray, List.set_cons_zero, List.set_cons_succ])
        have HN := Lib.hid (HN.out.put 3 (.slice Ak ((ksM ys).length + 1) ck) (bP' := .slice none 0 0) (bL' := vL) (bK' := (.slice Ak ((ksM ys).length + 1) ck)) rfl)
        generalize W.setCell ⟨w.heap.size + 1, 3, none⟩ (.slice Ak ((ksM ys).length + 1) ck) = V at HN hHeld ⊢
        rename World => W
        refine wpAnyH_take (i := 15) (oi := ⟨some 67, _, _, _, _, _⟩) (v := ?_) rfl (by kernel_rfl) (by kernel_rfl) (by kernel_rfl) (fun _ _ _ h => h) (Or.inl ⟨by simp [Region.wanted, yielded, undef], ?_⟩) (by assumption) ?_
        rotate_left
        · ((intro w hSw; (try dsimp only at hSw); go_simp) <;> with_reducible rfl)
        (try simp only [Act.put, List.setIfInBounds_toArray, List.set_cons_zero, List.set_cons_succ])
        refine wpAnyH_ready (rs := [16]) (by kernel_rfl) (by simp) ?_
        refine (AllReadyH.cons rfl (fun K hK => ?_) AllReadyH.nil)
        have cx := HN.out.cells.2.2.1
        have fx := HN.out.froz 2
        go_simp
        clear cx fx
        refine hK.out _ _ ?_ (fun hHeld => ?_)
        · (try dsimp only)
          try trivial
        clear hK K
        (try simp only [Act.put, List.setIfInBounds_toArray, List.set_cons_zero, List.set_cons_succ])
        have HN := Lib.hid (HN.out.put 2 (.slice Al ((lsM ys).length + 1) cl) (bP' := .slice none 0 0) (bL' := (.slice Al ((lsM ys).length + 1) cl)) (bK' := (.slice Ak ((ksM ys).length + 1) ck)) rfl)
        generalize W.setCell ⟨w.heap.size + 1, 2, none⟩ (.slice Al ((lsM ys).length + 1) cl) = V at HN hHeld ⊢
        rename World => W
        refine wpAnyH_done (by kernel_rfl) ?_ _
        refine NoPanic.normal ?_
        focus
          go_wp2_with fail
          go_roundw
          case rel =>
            refine ⟨k + 1, (.slice Al ((lsM ys).length + 1) cl), (.slice Ak ((ksM ys).length + 1) ck), by omega, by go_num, ?_, ?_⟩
            · rw [HTK.out, List.any_append, HYE.out]; rfl
            · rw [HTK.out, lsM_snoc, ksM_snoc]
              exact HN.out
          case measure => simp [intOf]; omega
        go_simp
        refine hK.out _ _ ?_ (fun hHeld => ?_)
        · (try dsimp only)
          try trivial
        clear hK K
        (try simp only [Act.put, List.setIfInBounds_toArray, List.set_cons_zero, List.set_cons_succ])
        obtain ⟨V, hV⟩ : ∃ V : World, V = W.alloc (.cells #[.string (bs r)] 9) := ⟨_, rfl⟩
        rw [← hV]
        have hbW : Below W.heap.size W V := by rw [hV]; exact (Below.refl _ _).alloc (Nat.le_refl _) _
        have HFL : Hid (V.heap[W.heap.size]? = some (.cells #[.string (bs r)] 9 (0, 0))) := by rw [hV]; exact heap_alloc_new _ _
        have HN := Lib.hid (HN.out.old hbW)
        clear hV hbW
        generalize W.heap.size = gpos at HFL
        rename World => W
        refine wpAnyH_ready (rs := [8]) (by kernel_rfl) (by simp) ?_
        refine (AllReadyH.cons (o := ⟨some 61, _, _, _, _, _⟩) rfl (fun K hK => ?_) AllReadyH.nil)
        have cx := HN.out.cells.2.2.1
        go_simp
        clear cx
        refine hK.out _ _ ?_ (fun hHeld => ?_)
        · (try dsimp only)
          try trivial
        clear hK K
        (try simp only [Act.put, List.setIfInBounds_toArray, List.set_cons_zero, List.set_cons_succ])
        refine wpAnyH_take (i := 13) (oi := ⟨some 66, _, _, _, _, _⟩) (v := ?_) rfl (by kernel_rfl) (by kernel_rfl) (by kernel_rfl) (fun _ _ _ h => h) (Or.inl ⟨by simp [Region.wanted, yielded, undef], ?_⟩) (by assumption) ?_
        rotate_left
        · ((intro w hSw; (try dsimp only at hSw); go_simp) <;> with_reducible rfl)
        (try simp only [Act.put, List.setIfInBounds_toArray, List.set_cons_zero, List.set_cons_succ])
        refine wpAnyH_ready (rs := [12]) (by kernel_rfl) (by simp) ?_
        refine (AllReadyH.cons (o := ⟨some 65, _, _, _, _, _⟩) rfl (fun K hK => ?_) AllReadyH.nil)
        refine step_push_one elStr rfl _ _ rfl w.heap.size vL (lsM ys).length ((lsM ys).map Value.string) rfl HN.out.s _ [.string (bs r)] HFL.out rfl rfl (by simp [Value.oneCell']) (by rw [lsM_len]; have := HYL.out; simp only [maxLen]; omega) (by rw [lsM_len]; have := HYL.out; omega) (Nat.le_of_lt HN.out.rl) ?_
        intro v7 V hp
        obtain ⟨Al, cl, rfl, _⟩ := own_form hp.1
        refine hK.out _ _ ?_ (fun hHeld => ?_)
        · (try dsimp only)
          try trivial
        clear hK K
        (try simp only [Act.put, List.setIfInBounds_toArray, List.set_cons_zero, List.set_cons_succ])
        have HN := Lib.hid (HN.out.pushL (x := bs r) hp)
        clear hp
        rename World => W
        refine wpAnyH_ready (rs := [14]) (by kernel_rfl) (by simp) ?_
        refine (AllReadyH.cons rfl (fun K hK => ?_) AllReadyH.nil)
        have cx := HN.out.cells.2.2.2
        have fx := HN.out.froz 3
        go_simp
        clear cx fx
        refine hK.out _ _ ?_ (fun hHeld => ?_)
        · (try dsimp only)
          try trivial
        clear hK K
        (try simp only [Act.put, List.setIfInBounds_toArray, List.set_cons_zero, List.set_cons_succ])
        have HN := Lib.hid (HN.out.put 3 (.slice Ak ((ksM ys).length + 1) ck) (bP' := .slice none 0 0) (bL' := vL) (bK' := (.slice Ak ((ksM ys).length + 1) ck)) rfl)
        generalize W.setCell ⟨w.heap.size + 1, 3, none⟩ (.slice Ak ((ksM ys).length + 1) ck) = V at HN hHeld ⊢
        rename World => W
        refine wpAnyH_take (i := 15) (oi := ⟨some 67, _, _, _, _, _⟩) (v := ?_) rfl (by kernel_rfl) (by kernel_rfl) (by kernel_rfl) (fun _ _ _ h => h) (Or.inl ⟨by simp [Region.wanted, yielded, undef], ?_⟩) (by assumption) ?_
        rotate_left
        · ((intro w hSw; (try dsimp only at hSw); go_simp) <;> with_reducible rfl)
        (try simp only [Act.put, List.setIfInBounds_toArray, List.set_cons_zero, List.set_cons_succ])
        refine wpAnyH_ready (rs := [16]) (by kernel_rfl) (by simp) ?_
        refine (AllReadyH.cons rfl (fun K hK => ?_) AllReadyH.nil)
        have cx := HN.out.cells.2.2.1
        have fx := HN.out.froz 2
        go_simp
        clear cx fx
        refine hK.out _ _ ?_ (fun hHeld => ?_)
        · (try dsimp only)
          try trivial
        clear hK K
        (try simp only [Act.put, List.setIfInBounds_toArray, List.set_cons_zero, List.set_cons_succ])
        have HN := Lib.hid (HN.out.put 2 (.slice Al ((lsM ys).length + 1) cl) (bP' := .slice none 0 0) (bL' := (.slice Al ((lsM ys).length + 1) cl)) (bK' := (.slice Ak ((ksM ys).length + 1) ck)) rfl)
        generalize W.setCell ⟨w.heap.size + 1, 2, none⟩ (.slice Al ((lsM ys).length + 1) cl) = V at HN hHeld ⊢
        rename World => W
        refine wpAnyH_done (by kernel_rfl) ?_ _
        refine NoPanic.normal ?_
        focus
          go_wp2_with fail
          go_roundw
          case rel =>
            refine ⟨k + 1, (.slice Al ((lsM ys).length + 1) cl), (.slice Ak ((ksM ys).length + 1) ck), by omega, by go_num, ?_, ?_⟩
            · rw [HTK.out, List.any_append, HYE.out]; rfl
            · rw [HTK.out, lsM_snoc, ksM_snoc]
              exact HN.out
          case measure => simp [intOf]; omega
        have cx := HN.out.cells.2.2.1
        go_simp
        clear cx
        refine hK.out _ _ ?_ (fun hHeld => ?_)
        · (try dsimp only)
          try trivial
        clear hK K
        (try simp only [Act.put, List.setIfInBounds_toArray, List.set_cons_zero, List.set_cons_succ])
        refine wpAnyH_ready (rs := [6, 11]) (by kernel_rfl) (by simp) ?_
        refine (AllReadyH.cons (o := ⟨some 59, _, _, _, _, _⟩) rfl (fun K hK => ?_) (AllReadyH.cons (o := ⟨some 64, _, _, _, _, _⟩) rfl (fun K hK => ?_) AllReadyH.nil))
        refine step_push_one elInt rfl _ _ rfl w.heap.size vK (ksM ys).length ((ksM ys).map ivi) rfl HN.out.k _ [ivi (a.toNat : Int)] HFI.out rfl rfl (by simp [Value.oneCell']) (by rw [ksM_len]; have := HYL.out; simp only [maxLen]; omega) (by rw [ksM_len]; have := HYL.out; omega) (Nat.le_of_lt HN.out.rl) ?_
        intro v6 V hp
        obtain ⟨Ak, ck, rfl, _⟩ := own_form hp.1
        refine hK.out _ _ ?_ (fun hHeld => ?_)
        · (try dsimp only)
          try trivial
        clear hK K
        (try simp only [Act.put, List.setIfInBounds_toArray, List.set_cons_zero, List.set_cons_succ])
        have HN := Lib.hid (HN.out.pushK (z := (a.toNat : Int)) hp)
        clear hp
        rename World => W
        refine wpAnyH_take (i := 13) (oi := ⟨some 66, _, _, _, _, _⟩) (v := ?_) rfl (by kernel_rfl) (by kernel_rfl) (by kernel_rfl) (fun _ _ _ h => h) (Or.inl ⟨by simp [Region.wanted, yielded, undef], ?_⟩) (by assumption) ?_
        rotate_left
        · ((intro w hSw; (try dsimp only at hSw); go_simp) <;> with_reducible rfl)
        (try simp only [Act.put, List.setIfInBounds_toArray, List.set_cons_zero, List.set_cons_succ])
        refine wpAnyH_ready (rs := [11]) (by kernel_rfl) (by simp) ?_
        refine (AllReadyH.cons (o := ⟨some 64, _, _, _, _, _⟩) rfl (fun K hK => ?_) AllReadyH.nil)
        go_simp
        refine hK.out _ _ ?_ (fun hHeld => ?_)
        · (try dsimp only)
          try trivial
        clear hK K
        (try simp only [Act.put, List.setIfInBounds_toArray, List.set_cons_zero, List.set_cons_succ])
        obtain ⟨V, hV⟩ : ∃ V : World, V = W.alloc (.cells #[.string (bs r)] 9) := ⟨_, rfl⟩
        rw [← hV]
        have hbW : Below W.heap.size W V := by rw [hV]; exact (Below.refl _ _).alloc (Nat.le_refl _) _
        have HFL : Hid (V.heap[W.heap.size]? = some (.cells #[.string (bs r)] 9 (0, 0))) := by rw [hV]; exact heap_alloc_new _ _
        have HN := Lib.hid (HN.out.old hbW)
        clear hV hbW
        generalize W.heap.size = gpos at HFL
        rename World => W
        refine wpAnyH_ready (rs := [12]) (by kernel_rfl) (by simp) ?_
        refine (AllReadyH.cons (o := ⟨some 65, _, _, _, _, _⟩) rfl (fun K hK => ?_) AllReadyH.nil)
        refine step_push_one elStr rfl _ _ rfl w.heap.size vL (lsM ys).length ((lsM ys).map Value.string) rfl HN.out.s _ [.string (bs r)] HFL.out rfl rfl (by simp [Value.oneCell']) (by rw [lsM_len]; have := HYL.out; simp only [maxLen]; omega) (by rw [lsM_len]; have := HYL.out; omega) (Nat.le_of_lt HN.out.rl) ?_
        intro v7 V hp
        obtain ⟨Al, cl, rfl, _⟩ := own_form hp.1
        refine hK.out _ _ ?_ (fun hHeld => ?_)
        · (try dsimp only)
          try trivial
        clear hK K
        (try simp only [Act.put, List.setIfInBounds_toArray, List.set_cons_zero, List.set_cons_succ])
        have HN := Lib.hid (HN.out.pushL (x := bs r) hp)
        clear hp
        rename World => W
        refine wpAnyH_ready (rs := [14]) (by kernel_rfl) (by simp) ?_
        refine (AllReadyH.cons rfl (fun K hK => ?_) AllReadyH.nil)
        have cx := HN.out.cells.2.2.2
        have fx := HN.out.froz 3
        go_simp
        clear cx fx
        refine hK.out _ _ ?_ (fun hHeld => ?_)
        · (try dsimp only)
          try trivial
        clear hK K
        (try simp only [Act.put, List.setIfInBounds_toArray, List.set_cons_zero, List.set_cons_succ])
        have HN := Lib.hid (HN.out.put 3 (.slice Ak ((ksM ys).length + 1) ck) (bP' := .slice none 0 0) (bL' := vL) (bK' := (.slice Ak ((ksM ys).length + 1) ck)) rfl)
        generalize W.setCell ⟨w.heap.size + 1, 3, none⟩ (.slice Ak ((ksM ys).length + 1) ck) = V at HN hHeld ⊢
        rename World => W
        refine wpAnyH_take (i := 15) (oi := ⟨some 67, _, _, _, _, _⟩) (v := ?_) rfl (by kernel_rfl) (by kernel_rfl) (by kernel_rfl) (fun _ _ _ h => h) (Or.inl ⟨by simp [Region.wanted, yielded, undef], ?_⟩) (by assumption) ?_
        rotate_left
        · ((intro w hSw; (try dsimp only at hSw); go_simp) <;> with_reducible rfl)
        (try simp only [Act.put, List.setIfInBounds_toArray, List.set_cons_zero, List.set_cons_succ])
        refine wpAnyH_ready (rs := [16]) (by kernel_rfl) (by simp) ?_
        refine (AllReadyH.cons rfl (fun K hK => ?_) AllReadyH.nil)
        have cx := HN.out.cells.2.2.1
        have fx := HN.out.froz 2
        go_simp
        clear cx fx
        refine hK.out _ _ ?_ (fun hHeld => ?_)
        · (try dsimp only)
          try trivial
        clear hK K
        (try simp only [Act.put, List.setIfInBounds_toArray, List.set_cons_zero, List.set_cons_succ])
        have HN := Lib.hid (HN.out.put 2 (.slice Al ((lsM ys).length + 1) cl) (bP' := .slice none 0 0) (bL' := (.slice Al ((lsM ys).length + 1) cl)) (bK' := (.slice Ak ((ksM ys).length + 1) ck)) rfl)
        generalize W.setCell ⟨w.heap.size + 1, 2, none⟩ (.slice Al ((lsM ys).length + 1) cl) = V at HN hHeld ⊢
        rename World => W
        refine wpAnyH_done (by kernel_rfl) ?_ _
        refine NoPanic.normal ?_
        focus
          go_wp2_with fail
          go_roundw
          case rel =>
            refine ⟨k + 1, (.slice Al ((lsM ys).length + 1) cl), (.slice Ak ((ksM ys).length + 1) ck), by omega, by go_num, ?_, ?_⟩
            · rw [HTK.out, List.any_append, HYE.out]; rfl
            · rw [HTK.out, lsM_snoc, ksM_snoc]
              exact HN.out
          case measure => simp [intOf]; omega
        go_simp
        refine hK.out _ _ ?_ (fun hHeld => ?_)
        · (try dsimp only)
          try trivial
        clear hK K
        (try simp only [Act.put, List.setIfInBounds_toArray, List.set_cons_zero, List.set_cons_succ])
        obtain ⟨V, hV⟩ : ∃ V : World, V = W.alloc (.cells #[.string (bs r)] 9) := ⟨_, rfl⟩
        rw [← hV]
        have hbW : Below W.heap.size W V := by rw [hV]; exact (Below.refl _ _).alloc (Nat.le_refl _) _
        have HFL : Hid (V.heap[W.heap.size]? = some (.cells #[.string (bs r)] 9 (0, 0))) := by rw [hV]; exact heap_alloc_new _ _
        have HFI := Lib.hid ((hbW.block _ (Array.getElem?_eq_some_iff.1 HFI.out).1).trans HFI.out)
        have HN := Lib.hid (HN.out.old hbW)
        clear hV hbW
        generalize W.heap.size = gpos at HFL
        rename World => W
        refine wpAnyH_ready (rs := [6]) (by kernel_rfl) (by simp) ?_
        refine (AllReadyH.cons (o := ⟨some 59, _, _, _, _, _⟩) rfl (fun K hK => ?_) AllReadyH.nil)
        refine step_push_one elInt rfl _ _ rfl w.heap.size vK (ksM ys).length ((ksM ys).map ivi) rfl HN.out.k _ [ivi (a.toNat : Int)] HFI.out rfl rfl (by simp [Value.oneCell']) (by rw [ksM_len]; have := HYL.out; simp only [maxLen]; omega) (by rw [ksM_len]; have := HYL.out; omega) (Nat.le_of_lt HN.out.rl) ?_
        intro v6 V hp
        obtain ⟨Ak, ck, rfl, _⟩ := own_form hp.1
        refine hK.out _ _ ?_ (fun hHeld => ?_)
        · (try dsimp only)
          try trivial
        clear hK K
        (try simp only [Act.put, List.setIfInBounds_toArray, List.set_cons_zero, List.set_cons_succ])
        have HFL := Lib.hid ((hp.2.block _ (Array.getElem?_eq_some_iff.1 HFL.out).1 (fun e => own_ne_blk' HN.out.k HFL.out (by decide) e.symm)).trans HFL.out)
        have HN := Lib.hid (HN.out.pushK (z := (a.toNat : Int)) hp)
        clear hp
        rename World => W
        refine wpAnyH_take (i := 13) (oi := ⟨some 66, _, _, _, _, _⟩) (v := ?_) rfl (by kernel_rfl) (by kernel_rfl) (by kernel_rfl) (fun _ _ _ h => h) (Or.inl ⟨by simp [Region.wanted, yielded, undef], ?_⟩) (by assumption) ?_
        rotate_left
        · ((intro w hSw; (try dsimp only at hSw); go_simp) <;> with_reducible rfl)
        (try simp only [Act.put, List.setIfInBounds_toArray, List.set_cons_zero, List.set_cons_succ])
        refine wpAnyH_ready (rs := [12]) (by kernel_rfl) (by simp) ?_
        refine (AllReadyH.cons (o := ⟨some 65, _, _, _, _, _⟩) rfl (fun K hK => ?_) AllReadyH.nil)
        refine step_push_one elStr rfl _ _ rfl w.heap.size vL (lsM ys).length ((lsM ys).map Value.string) rfl HN.out.s _ [.string (bs r)] HFL.out rfl rfl (by simp [Value.oneCell']) (by rw [lsM_len]; have := HYL.out; simp only [maxLen]; omega) (by rw [lsM_len]; have := HYL.out; omega) (Nat.le_of_lt HN.out.rl) ?_
        intro v7 V hp
        obtain ⟨Al, cl, rfl, _⟩ := own_form hp.1
        refine hK.out _ _ ?_ (fun hHeld => ?_)
        · (try dsimp only)
          try trivial
        clear hK K
        (try simp only [Act.put, List.setIfInBounds_toArray, List.set_cons_zero, List.set_cons_succ])
        have HN := Lib.hid (HN.out.pushL (x := bs r) hp)
        clear hp
        rename World => W
        refine wpAnyH_ready (rs := [14]) (by kernel_rfl) (by simp) ?_
        refine (AllReadyH.cons rfl (fun K hK => ?_) AllReadyH.nil)
        have cx := HN.out.cells.2.2.2
        have fx := HN.out.froz 3
        go_simp
        clear cx fx
        refine hK.out _ _ ?_ (fun hHeld => ?_)
        · (try dsimp only)
          try trivial
        clear hK K
        (try simp only [Act.put, List.setIfInBounds_toArray, List.set_cons_zero, List.set_cons_succ])
        have HN := Lib.hid (HN.out.put 3 (.slice Ak ((ksM ys).length + 1) ck) (bP' := .slice none 0 0) (bL' := vL) (bK' := (.slice Ak ((ksM ys).length + 1) ck)) rfl)
        generalize W.setCell ⟨w.heap.size + 1, 3, none⟩ (.slice Ak ((ksM ys).length + 1) ck) = V at HN hHeld ⊢
        rename World => W
        refine wpAnyH_take (i := 15) (oi := ⟨some 67, _, _, _, _, _⟩) (v := ?_) rfl (by kernel_rfl) (by kernel_rfl) (by kernel_rfl) (fun _ _ _ h => h) (Or.inl ⟨by simp [Region.wanted, yielded, undef], ?_⟩) (by assumption) ?_
        rotate_left
        · ((intro w hSw; (try dsimp only at hSw); go_simp) <;> with_reducible rfl)
        (try simp only [Act.put, List.setIfInBounds_toArray, List.set_cons_zero, List.set_cons_succ])
        refine wpAnyH_ready (rs := [16]) (by kernel_rfl) (by simp) ?_
        refine (AllReadyH.cons rfl (fun K hK => ?_) AllReadyH.nil)
        have cx := HN.out.cells.2.2.1
        have fx := HN.out.froz 2
        go_simp
        clear cx fx
        refine hK.out _ _ ?_ (fun hHeld => ?_)
        · (try dsimp only)
          try trivial
        clear hK K
        (try simp only [Act.put, List.setIfInBounds_toArray, List.set_cons_zero, List.set_cons_succ])
        have HN := Lib.hid (HN.out.put 2 (.slice Al ((lsM ys).length + 1) cl) (bP' := .slice none 0 0) (bL' := (.slice Al ((lsM ys).length + 1) cl)) (bK' := (.slice Ak ((ksM ys).length + 1) ck)) rfl)
        generalize W.setCell ⟨w.heap.size + 1, 2, none⟩ (.slice Al ((lsM ys).length + 1) cl) = V at HN hHeld ⊢
        rename World => W
        refine wpAnyH_done (by kernel_rfl) ?_ _
        refine NoPanic.normal ?_
        focus
          go_wp2_with fail
          go_roundw
          case rel =>
            refine ⟨k + 1, (.slice Al ((lsM ys).length + 1) cl), (.slice Ak ((ksM ys).length + 1) ck), by omega, by go_num, ?_, ?_⟩
            · rw [HTK.out, List.any_append, HYE.out]; rfl
            · rw [HTK.out, lsM_snoc, ksM_snoc]
              exact HN.out
          case measure => simp [intOf]; omega
        go_simp
        refine hK.out _ _ ?_ (fun hHeld => ?_)
        · (try dsimp only)
          try trivial
        clear hK K
        (try simp only [Act.put, List.setIfInBounds_toArray, List.set_cons_zero, List.set_cons_succ])
        obtain ⟨V, hV⟩ : ∃ V : World, V = W.alloc (.cells #[.string (bs r)] 9) := ⟨_, rfl⟩
        rw [← hV]
        have hbW : Below W.heap.size W V := by rw [hV]; exact (Below.refl _ _).alloc (Nat.le_refl _) _
        have HFL : Hid (V.heap[W.heap.size]? = some (.cells #[.string (bs r)] 9 (0, 0))) := by rw [hV]; exact heap_alloc_new _ _
        have HFI := Lib.hid ((hbW.block _ (Array.getElem?_eq_some_iff.1 HFI.out).1).trans HFI.out)
        have HN := Lib.hid (HN.out.old hbW)
        clear hV hbW
        generalize W.heap.size = gpos at HFL
        rename World => W
        refine wpAnyH_ready (rs := [6, 8]) (by kernel_rfl) (by simp) ?_
        refine (AllReadyH.cons (o := ⟨some 59, _, _, _, _, _⟩) rfl (fun K hK => ?_) (AllReadyH.cons (o := ⟨some 61, _, _, _, _, _⟩) rfl (fun K hK => ?_) AllReadyH.nil))
        refine step_push_one elInt rfl _ _ rfl w.heap.size vK (ksM ys).length ((ksM ys).map ivi) rfl HN.out.k _ [ivi (a.toNat : Int)] HFI.out rfl rfl (by simp [Value.oneCell']) (by rw [ksM_len]; have := HYL.out; simp only [maxLen]; omega) (by rw [ksM_len]; have := HYL.out; omega) (Nat.le_of_lt HN.out.rl) ?_
        intro v6 V hp
        obtain ⟨Ak, ck, rfl, _⟩ := own_form hp.1
        refine hK.out _ _ ?_ (fun hHeld => ?_)
        · (try dsimp only)
          try trivial
        clear hK K
        (try simp only [Act.put, List.setIfInBounds_toArray, List.set_cons_zero, List.set_cons_succ])
        have HFL := Lib.hid ((hp.2.block _ (Array.getElem?_eq_some_iff.1 HFL.out).1 (fun e => own_ne_blk' HN.out.k HFL.out (by decide) e.symm)).trans HFL.out)
        have HN := Lib.hid (HN.out.pushK (z := (a.toNat : Int)) hp)
        clear hp
        rename World => W
        refine wpAnyH_ready (rs := [8]) (by kernel_rfl) (by simp) ?_
        refine (AllReadyH.cons (o := ⟨some 61, _, _, _, _, _⟩) rfl (fun K hK => ?_) AllReadyH.nil)
        have cx := HN.out.cells.2.2.1
        go_simp
        clear cx
        refine hK.out _ _ ?_ (fun hHeld => ?_)
        · (try dsimp only)
          try trivial
        clear hK K
        (try simp only [Act.put, List.setIfInBounds_toArray, List.set_cons_zero, List.set_cons_succ])
        refine wpAnyH_take (i := 13) (oi := ⟨some 66, _, _, _, _, _⟩) (v := ?_) rfl (by kernel_rfl) (by kernel_rfl) (by kernel_rfl) (fun _ _ _ h => h) (Or.inl ⟨by simp [Region.wanted, yielded, undef], ?_⟩) (by assumption) ?_
        rotate_left
        · ((intro w hSw; (try dsimp only at hSw); go_simp) <;> with_reducible rfl)
        (try simp only [Act.put, List.setIfInBounds_toArray, List.set_cons_zero, List.set_cons_succ])
        refine wpAnyH_ready (rs := [12]) (by kernel_rfl) (by simp) ?_
        refine (AllReadyH.cons (o := ⟨some 65, _, _, _, _, _⟩) rfl (fun K hK => ?_) AllReadyH.nil)
        refine step_push_one elStr rfl _ _ rfl w.heap.size vL (lsM ys).length ((lsM ys).map Value.string) rfl HN.out.s _ [.string (bs r)] HFL.out rfl rfl (by simp [Value.oneCell']) (by rw [lsM_len]; have := HYL.out; simp only [maxLen]; omega) (by rw [lsM_len]; have := HYL.out; omega) (Nat.le_of_lt HN.out.rl) ?_
        intro v7 V hp
        obtain ⟨Al, cl, rfl, _⟩ := own_form hp.1
        refine hK.out _ _ ?_ (fun hHeld => ?_)
        · (try dsimp only)
          try trivial
        clear hK K
        (try simp only [Act.put, List.setIfInBounds_toArray, List.set_cons_zero, List.set_cons_succ])
        have HN := Lib.hid (HN.out.pushL (x := bs r) hp)
        clear hp
        rename World => W
        refine wpAnyH_ready (rs := [14]) (by kernel_rfl) (by simp) ?_
        refine (AllReadyH.cons rfl (fun K hK => ?_) AllReadyH.nil)
        have cx := HN.out.cells.2.2.2
        have fx := HN.out.froz 3
        go_simp
        clear cx fx
        refine hK.out _ _ ?_ (fun hHeld => ?_)
        · (try dsimp only)
          try trivial
        clear hK K
        (try simp only [Act.put, List.setIfInBounds_toArray, List.set_cons_zero, List.set_cons_succ])
        have HN := Lib.hid (HN.out.put 3 (.slice Ak ((ksM ys).length + 1) ck) (bP' := .slice none 0 0) (bL' := vL) (bK' := (.slice Ak ((ksM ys).length + 1) ck)) rfl)
        generalize W.setCell ⟨w.heap.size + 1, 3, none⟩ (.slice Ak ((ksM ys).length + 1) ck) = V at HN hHeld ⊢
        rename World => W
        refine wpAnyH_take (i := 15) (oi := ⟨some 67, _, _, _, _, _⟩) (v := ?_) rfl (by kernel_rfl) (by kernel_rfl) (by kernel_rfl) (fun _ _ _ h => h) (Or.inl ⟨by simp [Region.wanted, yielded, undef], ?_⟩) (by assumption) ?_
        rotate_left
        · ((intro w hSw; (try dsimp only at hSw); go_simp) <;> with_reducible rfl)
        (try simp only [Act.put, List.setIfInBounds_toArray, List.set_cons_zero, List.set_cons_succ])
        refine wpAnyH_ready (rs := [16]) (by kernel_rfl) (by simp) ?_
        refine (AllReadyH.cons rfl (fun K hK => ?_) AllReadyH.nil)
        have cx := HN.out.cells.2.2.1
        have fx := HN.out.froz 2
        go_simp
        clear cx fx
        refine hK.out _ _ ?_ (fun hHeld => ?_)
        · (try dsimp only)
          try trivial
        clear hK K
        (try simp only [Act.put, List.setIfInBounds_toArray, List.set_cons_zero, List.set_cons_succ])
        have HN := Lib.hid (HN.out.put 2 (.slice Al ((lsM ys).length + 1) cl) (bP' := .slice none 0 0) (bL' := (.slice Al ((lsM ys).length + 1) cl)) (bK' := (.slice Ak ((ksM ys).length + 1) ck)) rfl)
        generalize W.setCell ⟨w.heap.size + 1, 2, none⟩ (.slice Al ((lsM ys).length + 1) cl) = V at HN hHeld ⊢
        rename World => W
        refine wpAnyH_done (by kernel_rfl) ?_ _
        refine NoPanic.normal ?_
        focus
          go_wp2_with fail
          go_roundw
          case rel =>
            refine ⟨k + 1, (.slice Al ((lsM ys).length + 1) cl), (.slice Ak ((ksM ys).length + 1) ck), by omega, by go_num, ?_, ?_⟩
            · rw [HTK.out, List.any_append, HYE.out]; rfl
            · rw [HTK.out, lsM_snoc, ksM_snoc]
              exact HN.out
          case measure => simp [intOf]; omega
        have cx := HN.out.cells.2.2.1
        go_simp
        clear cx
        refine hK.out _ _ ?_ (fun hHeld => ?_)
        · (try dsimp only)
          try trivial
        clear hK K
        (try simp only [Act.put, List.setIfInBounds_toArray, List.set_cons_zero, List.set_cons_succ])
        refine wpAnyH_ready (rs := [6]) (by kernel_rfl) (by simp) ?_
        refine (AllReadyH.cons (o := ⟨some 59, _, _, _, _, _⟩) rfl (fun K hK => ?_) AllReadyH.nil)
        refine step_push_one elInt rfl _ _ rfl w.heap.size vK (ksM ys).length ((ksM ys).map ivi) rfl HN.out.k _ [ivi (a.toNat : Int)] HFI.out rfl rfl (by simp [Value.oneCell']) (by rw [ksM_len]; have := HYL.out; simp only [maxLen]; omega) (by rw [ksM_len]; have := HYL.out; omega) (Nat.le_of_lt HN.out.rl) ?_
        intro v6 V hp
        obtain ⟨Ak, ck, rfl, _⟩ := own_form hp.1
        refine hK.out _ _ ?_ (fun hHeld => ?_)
        · (try dsimp only)
          try trivial
        clear hK K
        (try simp only [Act.put, List.setIfInBounds_toArray, List.set_cons_zero, List.set_cons_succ])
        have HFL := Lib.hid ((hp.2.block _ (Array.getElem?_eq_some_iff.1 HFL.out).1 (fun e => own_ne_blk' HN.out.k HFL.out (by decide) e.symm)).trans HFL.out)
        have HN := Lib.hid (HN.out.pushK (z := (a.toNat : Int)) hp)
        clear hp
        rename World => W
        refine wpAnyH_take (i := 13) (oi := ⟨some 66, _, _, _, _, _⟩) (v := ?_) rfl (by kernel_rfl) (by kernel_rfl) (by kernel_rfl) (fun _ _ _ h => h) (Or.inl ⟨by simp [Region.wanted, yielded, undef], ?_⟩) (by assumption) ?_
        rotate_left
        · ((intro w hSw; (try dsimp only at hSw); go_simp) <;> with_reducible rfl)
        (try simp only [Act.put, List.setIfInBounds_toArray, List.set_cons_zero, List.set_cons_succ])
        refine wpAnyH_ready (rs := [12]) (by kernel_rfl) (by simp) ?_
        refine (AllReadyH.cons (o := ⟨some 65, _, _, _, _, _⟩) rfl (fun K hK => ?_) AllReadyH.nil)
        refine step_push_one elStr rfl _ _ rfl w.heap.size vL (lsM ys).length ((lsM ys).map Value.string) rfl HN.out.s _ [.string (bs r)] HFL.out rfl rfl (by simp [Value.oneCell']) (by rw [lsM_len]; have := HYL.out; simp only [maxLen]; omega) (by rw [lsM_len]; have := HYL.out; omega) (Nat.le_of_lt HN.out.rl) ?_
        intro v7 V hp
        obtain ⟨Al, cl, rfl, _⟩ := own_form hp.1
        refine hK.out _ _ ?_ (fun hHeld => ?_)
        · (try dsimp only)
          try trivial
        clear hK K
        (try simp only [Act.put, List.setIfInBounds_toArray, List.set_cons_zero, List.set_cons_succ])
        have HN := Lib.hid (HN.out.pushL (x := bs r) hp)
        clear hp
        rename World => W
        refine wpAnyH_ready (rs := [14]) (by kernel_rfl) (by simp) ?_
        refine (AllReadyH.cons rfl (fun K hK => ?_) AllReadyH.nil)
        have cx := HN.out.cells.2.2.2
        have fx := HN.out.froz 3
        go_simp
        clear cx fx
        refine hK.out _ _ ?_ (fun hHeld => ?_)
        · (try dsimp only)
          try trivial
        clear hK K
        (try simp only [Act.put, List.setIfInBounds_toArray, List.set_cons_zero, List.set_cons_succ])
        have HN := Lib.hid (HN.out.put 3 (.slice Ak ((ksM ys).length + 1) ck) (bP' := .slice none 0 0) (bL' := vL) (bK' := (.slice Ak ((ksM ys).length + 1) ck)) rfl)
        generalize W.setCell ⟨w.heap.size + 1, 3, none⟩ (.slice Ak ((ksM ys).length + 1) ck) = V at HN hHeld ⊢
        rename World => W
        refine wpAnyH_take (i := 15) (oi := ⟨some 67, _, _, _, _, _⟩) (v := ?_) rfl (by kernel_rfl) (by kernel_rfl) (by kernel_rfl) (fun _ _ _ h => h) (Or.inl ⟨by simp [Region.wanted, yielded, undef], ?_⟩) (by assumption) ?_
        rotate_left
        · ((intro w hSw; (try dsimp only at hSw); go_simp) <;> with_reducible rfl)
        (try simp only [Act.put, List.setIfInBounds_toArray, List.set_cons_zero, List.set_cons_succ])
        refine wpAnyH_ready (rs := [16]) (by kernel_rfl) (by simp) ?_
        refine (AllReadyH.cons rfl (fun K hK => ?_) AllReadyH.nil)
        have cx := HN.out.cells.2.2.1
        have fx := HN.out.froz 2
        go_simp
        clear cx fx
        refine hK.out _ _ ?_ (fun hHeld => ?_)
        · (try dsimp only)
          try trivial
        clear hK K
        (try simp only [Act.put, List.setIfInBounds_toArray, List.set_cons_zero, List.set_cons_succ])
        have HN := Lib.hid (HN.out.put 2 (.slice Al ((lsM ys).length + 1) cl) (bP' := .slice none 0 0) (bL' := (.slice Al ((lsM ys).length + 1) cl)) (bK' := (.slice Ak ((ksM ys).length + 1) ck)) rfl)
        generalize W.setCell ⟨w.heap.size + 1, 2, none⟩ (.slice Al ((lsM ys).length + 1) cl) = V at HN hHeld ⊢
        rename World => W
        refine wpAnyH_done (by kernel_rfl) ?_ _
        refine NoPanic.normal ?_
        focus
          go_wp2_with fail
          go_roundw
          case rel =>
            refine ⟨k + 1, (.slice Al ((lsM ys).length + 1) cl), (.slice Ak ((ksM ys).length + 1) ck), by omega, by go_num, ?_, ?_⟩
            · rw [HTK.out, List.any_append, HYE.out]; rfl
            · rw [HTK.out, lsM_snoc, ksM_snoc]
              exact HN.out
          case measure => simp [intOf]; omega
        have cx := HN.out.cells.2.2.1
        go_simp
        clear cx
        refine hK.out _ _ ?_ (fun hHeld => ?_)
        · (try dsimp only)
          try trivial
        clear hK K
        (try simp only [Act.put, List.setIfInBounds_toArray, List.set_cons_zero, List.set_cons_succ])
        refine wpAnyH_ready (rs := [5, 11]) (by kernel_rfl) (by simp) ?_
        refine (AllReadyH.cons (o := ⟨some 58, _, _, _, _, _⟩) rfl (fun K hK => ?_) (AllReadyH.cons (o := ⟨some 64, _, _, _, _, _⟩) rfl (fun K hK => ?_) AllReadyH.nil))
        go_simp
        refine hK.out _ _ ?_ (fun hHeld => ?_)
        · (try dsimp only)
          try trivial
        clear hK K
        (try simp only [Act.put, List.setIfInBounds_toArray, List.set_cons_zero, List.set_cons_succ])
        obtain ⟨V, hV⟩ : ∃ V : World, V = W.alloc (.cells #[.int .i64 (a.toNat : Int)] 3) := ⟨_, rfl⟩
        rw [← hV]
        have hbW : Below W.heap.size W V := by rw [hV]; exact (Below.refl _ _).alloc (Nat.le_refl _) _
        have HFI : Hid (V.heap[W.heap.size]? = some (.cells #[.int .i64 (a.toNat : Int)] 3 (0, 0))) := by rw [hV]; exact heap_alloc_new _ _
        have HN := Lib.hid (HN.out.old hbW)
        clear hV hbW
        generalize W.heap.size = gpos at HFI
        rename World => W
        refine wpAnyH_ready (rs := [6, 11]) (by kernel_rfl) (by simp) ?_
        refine (AllReadyH.cons (o := ⟨some 59, _, _, _, _, _⟩) rfl (fun K hK => ?_) (AllReadyH.cons (o := ⟨some 64, _, _, _, _, _⟩) rfl (fun K hK => ?_) AllReadyH.nil))
        refine step_push_one elInt rfl _ _ rfl w.heap.size vK (ksM ys).length ((ksM ys).map ivi) rfl HN.out.k _ [ivi (a.toNat : Int)] HFI.out rfl rfl (by simp [Value.oneCell']) (by rw [ksM_len]; have := HYL.out; simp only [maxLen]; omega) (by rw [ksM_len]; have := HYL.out; omega) (Nat.le_of_lt HN.out.rl) ?_
        intro v6 V hp
        obtain ⟨Ak, ck, rfl, _⟩ := own_form hp.1
        refine hK.out _ _ ?_ (fun hHeld => ?_)
        · (try dsimp only)
          try trivial
        clear hK K
        (try simp only [Act.put, List.setIfInBounds_toArray, List.set_cons_zero, List.set_cons_succ])
        have HN := Lib.hid (HN.out.pushK (z := (a.toNat : Int)) hp)
        clear hp
        rename World => W
        refine wpAnyH_take (i := 13) (oi := ⟨some 66, _, _, _, _, _⟩) (v := ?_) rfl (by kernel_rfl) (by kernel_rfl) (by kernel_rfl) (fun _ _ _ h => h) (Or.inl ⟨by simp [Region.wanted, yielded, undef], ?_⟩) (by assumption) ?_
        rotate_left
        · ((intro w hSw; (try dsimp only at hSw); go_simp) <;> with_reducible rfl)
        (try simp only [Act.put, List.setIfInBounds_toArray, List.set_cons_zero, List.set_cons_succ])
        refine wpAnyH_ready (rs := [11]) (by kernel_rfl) (by simp) ?_
        refine (AllReadyH.cons (o := ⟨some 64, _, _, _, _, _⟩) rfl (fun K hK => ?_) AllReadyH.nil)
        go_simp
        refine hK.out _ _ ?_ (fun hHeld => ?_)
        · (try dsimp only)
          try trivial
        clear hK K
        (try simp only [Act.put, List.setIfInBounds_toArray, List.set_cons_zero, List.set_cons_succ])
        obtain ⟨V, hV⟩ : ∃ V : World, V = W.alloc (.cells #[.string (bs r)] 9) := ⟨_, rfl⟩
        rw [← hV]
        have hbW : Below W.heap.size W V := by rw [hV]; exact (Below.refl _ _).alloc (Nat.le_refl _) _
        have HFL : Hid (V.heap[W.heap.size]? = some (.cells #[.string (bs r)] 9 (0, 0))) := by rw [hV]; exact heap_alloc_new _ _
        have HN := Lib.hid (HN.out.old hbW)
        clear hV hbW
        generalize W.heap.size = gpos at HFL
        rename World => W
        refine wpAnyH_ready (rs := [12]) (by kernel_rfl) (by simp) ?_
        refine (AllReadyH.cons (o := ⟨some 65, _, _, _, _, _⟩) rfl (fun K hK => ?_) AllReadyH.nil)
        refine step_push_one elStr rfl _ _ rfl w.heap.size vL (lsM ys).length ((lsM ys).map Value.string) rfl HN.out.s _ [.string (bs r)] HFL.out rfl rfl (by simp [Value.oneCell']) (by rw [lsM_len]; have := HYL.out; simp only [maxLen]; omega) (by rw [lsM_len]; have := HYL.out; omega) (Nat.le_of_lt HN.out.rl) ?_
        intro v7 V hp
        obtain ⟨Al, cl, rfl, _⟩ := own_form hp.1
        refine hK.out _ _ ?_ (fun hHeld => ?_)
        · (try dsimp only)
          try trivial
        clear hK K
        (try simp only [Act.put, List.setIfInBounds_toArray, List.set_cons_zero, List.set_cons_succ])
        have HN := Lib.hid (HN.out.pushL (x := bs r) hp)
        clear hp
        rename World => W
        refine wpAnyH_ready (rs := [14]) (by kernel_rfl) (by simp) ?_
        refine (AllReadyH.cons rfl (fun K hK => ?_) AllReadyH.nil)
        have cx := HN.out.cells.2.2.2
        have fx := HN.out.froz 3
        go_simp
        clear cx fx
        refine hK.out _ _ ?_ (fun hHeld => ?_)
        · (try dsimp only)
          try trivial
        clear hK K
        (try simp only [Act.put, List.setIfInBounds_toArray, List.set_cons_zero, List.set_cons_succ])
        have HN := Lib.hid (HN.out.put 3 (.slice Ak ((ksM ys).length + 1) ck) (bP' := .slice none 0 0) (bL' := vL) (bK' := (.slice Ak ((ksM ys).length + 1) ck)) rfl)
        generalize W.setCell ⟨w.heap.size + 1, 3, none⟩ (.slice Ak ((ksM ys).length + 1) ck) = V at HN hHeld ⊢
        rename World => W
        refine wpAnyH_take (i := 15) (oi := ⟨some 67, _, _, _, _, _⟩) (v := ?_) rfl (by kernel_rfl) (by kernel_rfl) (by kernel_rfl) (fun _ _ _ h => h) (Or.inl ⟨by simp [Region.wanted, yielded, undef], ?_⟩) (by assumption) ?_
        rotate_left
        · ((intro w hSw; (try dsimp only at hSw); go_simp) <;> with_reducible rfl)
        (try simp only [Act.put, List.setIfInBounds_toArray, List.set_cons_zero, List.set_cons_succ])
        refine wpAnyH_ready (rs := [16]) (by kernel_rfl) (by simp) ?_
        refine (AllReadyH.cons rfl (fun K hK => ?_) AllReadyH.nil)
        have cx := HN.out.cells.2.2.1
        have fx := HN.out.froz 2
        go_simp
        clear cx fx
        refine hK.out _ _ ?_ (fun hHeld => ?_)
        · (try dsimp only)
          try trivial
        clear hK K
        (try simp only [Act.put, List.setIfInBounds_toArray, List.set_cons_zero, List.set_cons_succ])
        have HN := Lib.hid (HN.out.put 2 (.slice Al ((lsM ys).length + 1) cl) (bP' := .slice none 0 0) (bL' := (.slice Al ((lsM ys).length + 1) cl)) (bK' := (.slice Ak ((ksM ys).length + 1) ck)) rfl)
        generalize W.setCell ⟨w.heap.size + 1, 2, none⟩ (.slice Al ((lsM ys).length + 1) cl) = V at HN hHeld ⊢
        rename World => W
        refine wpAnyH_done (by kernel_rfl) ?_ _
        refine NoPanic.normal ?_
        focus
          go_wp2_with fail
          go_roundw
          case rel =>
            refine ⟨k + 1, (.slice Al ((lsM ys).length + 1) cl), (.slice Ak ((ksM ys).length + 1) ck), by omega, by go_num, ?_, ?_⟩
            · rw [HTK.out, List.any_append, HYE.out]; rfl
            · rw [HTK.out, lsM_snoc, ksM_snoc]
              exact HN.out
          case measure => simp [intOf]; omega
        go_simp
        refine hK.out _ _ ?_ (fun hHeld => ?_)
        · (try dsimp only)
          try trivial
        clear hK K
        (try simp only [Act.put, List.setIfInBounds_toArray, List.set_cons_zero, List.set_cons_succ])
        obtain ⟨V, hV⟩ : ∃ V : World, V = W.alloc (.cells #[.string (bs r)] 9) := ⟨_, rfl⟩
        rw [← hV]
        have hbW : Below W.heap.size W V := by rw [hV]; exact (Below.refl _ _).alloc (Nat.le_refl _) _
        have HFL : Hid (V.heap[W.heap.size]? = some (.cells #[.string (bs r)] 9 (0, 0))) := by rw [hV]; exact heap_alloc_new _ _
        have HFI := Lib.hid ((hbW.block _ (Array.getElem?_eq_some_iff.1 HFI.out).1).trans HFI.out)
        have HN := Lib.hid (HN.out.old hbW)
        clear hV hbW
        generalize W.heap.size = gpos at HFL
        rename World => W
        refine wpAnyH_ready (rs := [6]) (by kernel_rfl) (by simp) ?_
        refine (AllReadyH.cons (o := ⟨some 59, _, _, _, _, _⟩) rfl (fun K hK => ?_) AllReadyH.nil)
        refine step_push_one elInt rfl _ _ rfl w.heap.size vK (ksM ys).length ((ksM ys).map ivi) rfl HN.out.k _ [ivi (a.toNat : Int)] HFI.out rfl rfl (by simp [Value.oneCell']) (by rw [ksM_len]; have := HYL.out; simp only [maxLen]; omega) (by rw [ksM_len]; have := HYL.out; omega) (Nat.le_of_lt HN.out.rl) ?_
        intro v6 V hp
        obtain ⟨Ak, ck, rfl, _⟩ := own_form hp.1
        refine hK.out _ _ ?_ (fun hHeld => ?_)
        · (try dsimp only)
          try trivial
        clear hK K
        (try simp only [Act.put, List.setIfInBounds_toArray, List.set_cons_zero, List.set_cons_succ])
        have HFL := Lib.hid ((hp.2.block _ (Array.getElem?_eq_some_iff.1 HFL.out).1 (fun e => own_ne_blk' HN.out.k HFL.out (by decide) e.symm)).trans HFL.out)
        have HN := Lib.hid (HN.out.pushK (z := (a.toNat : Int)) hp)
        clear hp
        rename World => W
        refine wpAnyH_take (i := 13) (oi := ⟨some 66, _, _, _, _, _⟩) (v := ?_) rfl (by kernel_rfl) (by kernel_rfl) (by kernel_rfl) (fun _ _ _ h => h) (Or.inl ⟨by simp [Region.wanted, yielded, undef], ?_⟩) (by assumption) ?_
        rotate_left
        · ((intro w hSw; (try dsimp only at hSw); go_simp) <;> with_reducible rfl)
        (try simp only [Act.put, List.setIfInBounds_toArray, List.set_cons_zero, List.set_cons_succ])
        refine wpAnyH_ready (rs := [12]) (by kernel_rfl) (by simp) ?_
        refine (AllReadyH.cons (o := ⟨some 65, _, _, _, _, _⟩) rfl (fun K hK => ?_) AllReadyH.nil)
        refine step_push_one elStr rfl _ _ rfl w.heap.size vL (lsM ys).length ((lsM ys).map Value.string) rfl HN.out.s _ [.string (bs r)] HFL.out rfl rfl (by simp [Value.oneCell']) (by rw [lsM_len]; have := HYL.out; simp only [maxLen]; omega) (by rw [lsM_len]; have := HYL.out; omega) (Nat.le_of_lt HN.out.rl) ?_
        intro v7 V hp
        obtain ⟨Al, cl, rfl, _⟩ := own_form hp.1
        refine hK.out _ _ ?_ (fun hHeld => ?_)
        · (try dsimp only)
          try trivial
        clear hK K
        (try simp only [Act.put, List.setIfInBounds_toArray, List.set_cons_zero, List.set_cons_succ])
        have HN := Lib.hid (HN.out.pushL (x := bs r) hp)
        clear hp
        rename World => W
        refine wpAnyH_ready (rs := [14]) (by kernel_rfl) (by simp) ?_
        refine (AllReadyH.cons rfl (fun K hK => ?_) AllReadyH.nil)
        have cx := HN.out.cells.2.2.2
        have fx := HN.out.froz 3
        go_simp
        clear cx fx
        refine hK.out _ _ ?_ (fun hHeld => ?_)
        · (try dsimp only)
          try trivial
        clear hK K
        (try simp only [Act.put, List.setIfInBounds_toArray, List.set_cons_zero, List.set_cons_succ])
        have HN := Lib.hid (HN.out.put 3 (.slice Ak ((ksM ys).length + 1) ck) (bP' := .slice none 0 0) (bL' := vL) (bK' := (.slice Ak ((ksM ys).length + 1) ck)) rfl)
        generalize W.setCell ⟨w.heap.size + 1, 3, none⟩ (.slice Ak ((ksM ys).length + 1) ck) = V at HN hHeld ⊢
        rename World => W
        refine wpAnyH_take (i := 15) (oi := ⟨some 67, _, _, _, _, _⟩) (v := ?_) rfl (by kernel_rfl) (by kernel_rfl) (by kernel_rfl) (fun _ _ _ h => h) (Or.inl ⟨by simp [Region.wanted, yielded, undef], ?_⟩) (by assumption) ?_
        rotate_left
        · ((intro w hSw; (try dsimp only at hSw); go_simp) <;> with_reducible rfl)
        (try simp only [Act.put, List.setIfInBounds_toArray, List.set_cons_zero, List.set_cons_succ])
        refine wpAnyH_ready (rs := [16]) (by kernel_rfl) (by simp) ?_
        refine (AllReadyH.cons rfl (fun K hK => ?_) AllReadyH.nil)
        have cx := HN.out.cells.2.2.1
        have fx := HN.out.froz 2
        go_simp
        clear cx fx
        refine hK.out _ _ ?_ (fun hHeld => ?_)
        · (try dsimp only)
          try trivial
        clear hK K
        (try simp only [Act.put, List.setIfInBounds_toArray, List.set_cons_zero, List.set_cons_succ])
        have HN := Lib.hid (HN.out.put 2 (.slice Al ((lsM ys).length + 1) cl) (bP' := .slice none 0 0) (bL' := (.slice Al ((lsM ys).length + 1) cl)) (bK' := (.slice Ak ((ksM ys).length + 1) ck)) rfl)
        generalize W.setCell ⟨w.heap.size + 1, 2, none⟩ (.slice Al ((lsM ys).length + 1) cl) = V at HN hHeld ⊢
        rename World => W
        refine wpAnyH_done (by kernel_rfl) ?_ _
        refine NoPanic.normal ?_
        focus
          go_wp2_with fail
          go_roundw
          case rel =>
            refine ⟨k + 1, (.slice Al ((lsM ys).length + 1) cl), (.slice Ak ((ksM ys).length + 1) ck), by omega, by go_num, ?_, ?_⟩
            · rw [HTK.out, List.any_append, HYE.out]; rfl
            · rw [HTK.out, lsM_snoc, ksM_snoc]
              exact HN.out
          case measure => simp [intOf]; omega
        go_simp
        refine hK.out _ _ ?_ (fun hHeld => ?_)
        · (try dsimp only)
          try trivial
        clear hK K
        (try simp only [Act.put, List.setIfInBounds_toArray, List.set_cons_zero, List.set_cons_succ])
        obtain ⟨V, hV⟩ : ∃ V : World, V = W.alloc (.cells #[.string (bs r)] 9) := ⟨_, rfl⟩
        rw [← hV]
        have hbW : Below W.heap.size W V := by rw [hV]; exact (Below.refl _ _).alloc (Nat.le_refl _) _
        have HFL : Hid (V.heap[W.heap.size]? = some (.cells #[.string (bs r)] 9 (0, 0))) := by rw [hV]; exact heap_alloc_new _ _
        have HN := Lib.hid (HN.out.old hbW)
        clear hV hbW
        generalize W.heap.size = gpos at HFL
        rename World => W
        refine wpAnyH_ready (rs := [5]) (by kernel_rfl) (by simp) ?_
        refine (AllReadyH.cons (o := ⟨some 58, _, _, _, _, _⟩) rfl (fun K hK => ?_) AllReadyH.nil)
        go_simp
        refine hK.out _ _ ?_ (fun hHeld => ?_)
        · (try dsimp only)
          try trivial
        clear hK K
        (try simp only [Act.put, List.setIfInBounds_toArray, List.set_cons_zero, List.set_cons_succ])
        obtain ⟨V, hV⟩ : ∃ V : World, V = W.alloc (.cells #[.int .i64 (a.toNat : Int)] 3) := ⟨_, rfl⟩
        rw [← hV]
        have hbW : Below W.heap.size W V := by rw [hV]; exact (Below.refl _ _).alloc (Nat.le_refl _) _
        have HFI : Hid (V.heap[W.heap.size]? = some (.cells #[.int .i64 (a.toNat : Int)] 3 (0, 0))) := by rw [hV]; exact heap_alloc_new _ _
        have HFL := Lib.hid ((hbW.block _ (Array.getElem?_eq_some_iff.1 HFL.out).1).trans HFL.out)
        have HN := Lib.hid (HN.out.old hbW)
        clear hV hbW
        generalize W.heap.size = gpos at HFI
        rename World => W
        refine wpAnyH_ready (rs := [6]) (by kernel_rfl) (by simp) ?_
        refine (AllReadyH.cons (o := ⟨some 59, _, _, _, _, _⟩) rfl (fun K hK => ?_) AllReadyH.nil)
        refine step_push_one elInt rfl _ _ rfl w.heap.size vK (ksM ys).length ((ksM ys).map ivi) rfl HN.out.k _ [ivi (a.toNat : Int)] HFI.out rfl rfl (by simp [Value.oneCell']) (by rw [ksM_len]; have := HYL.out; simp only [maxLen]; omega) (by rw [ksM_len]; have := HYL.out; omega) (Nat.le_of_lt HN.out.rl) ?_
        intro v6 V hp
        obtain ⟨Ak, ck, rfl, _⟩ := own_form hp.1
        refine hK.out _ _ ?_ (fun hHeld => ?_)
        · (try dsimp only)
          try trivial
        clear hK K
        (try simp only [Act.put, List.setIfInBounds_toArray, List.set_cons_zero, List.set_cons_succ])
        have HFL := Lib.hid ((hp.2.block _ (Array.getElem?_eq_some_iff.1 HFL.out).1 (fun e => own_ne_blk' HN.out.k HFL.out (by decide) e.symm)).trans HFL.out)
        have HN := Lib.hid (HN.out.pushK (z := (a.toNat : Int)) hp)
        clear hp
        rename World => W
        refine wpAnyH_take (i := 13) (oi := ⟨some 66, _, _, _, _, _⟩) (v := ?_) rfl (by kernel_rfl) (by kernel_rfl) (by kernel_rfl) (fun _ _ _ h => h) (Or.inl ⟨by simp [Region.wanted, yielded, undef], ?_⟩) (by assumption) ?_
        rotate_left
        · ((intro w hSw; (try dsimp only at hSw); go_simp) <;> with_reducible rfl)
        (try simp only [Act.put, List.setIfInBounds_toArray, List.set_cons_zero, List.set_cons_succ])
        refine wpAnyH_ready (rs := [12]) (by kernel_rfl) (by simp) ?_
        refine (AllReadyH.cons (o := ⟨some 65, _, _, _, _, _⟩) rfl (fun K hK => ?_) AllReadyH.nil)
        refine step_push_one elStr rfl _ _ rfl w.heap.size vL (lsM ys).length ((lsM ys).map Value.string) rfl HN.out.s _ [.string (bs r)] HFL.out rfl rfl (by simp [Value.oneCell']) (by rw [lsM_len]; have := HYL.out; simp only [maxLen]; omega) (by rw [lsM_len]; have := HYL.out; omega) (Nat.le_of_lt HN.out.rl) ?_
        intro v7 V hp
        obtain ⟨Al, cl, rfl, _⟩ := own_form hp.1
        refine hK.out _ _ ?_ (fun hHeld => ?_)
        · (try dsimp only)
          try trivial
        clear hK K
        (try simp only [Act.put, List.setIfInBounds_toArray, List.set_cons_zero, List.set_cons_succ])
        have HN := Lib.hid (HN.out.pushL (x := bs r) hp)
        clear hp
        rename World => W
        refine wpAnyH_ready (rs := [14]) (by kernel_rfl) (by simp) ?_
        refine (AllReadyH.cons rfl (fun K hK => ?_) AllReadyH.nil)
        have cx := HN.out.cells.2.2.2
        have fx := HN.out.froz 3
        go_simp
        clear cx fx
        refine hK.out _ _ ?_ (fun hHeld => ?_)
        · (try dsimp only)
          try trivial
        clear hK K
        (try simp only [Act.put, List.setIfInBounds_toArray, List.set_cons_zero, List.set_cons_succ])
        have HN := Lib.hid (HN.out.put 3 (.slice Ak ((ksM ys).length + 1) ck) (bP' := .slice none 0 0) (bL' := vL) (bK' := (.slice Ak ((ksM ys).length + 1) ck)) rfl)
        generalize W.setCell ⟨w.heap.size + 1, 3, none⟩ (.slice Ak ((ksM ys).length + 1) ck) = V at HN hHeld ⊢
        rename World => W
        refine wpAnyH_take (i := 15) (oi := ⟨some 67, _, _, _, _, _⟩) (v := ?_) rfl (by kernel_rfl) (by kernel_rfl) (by kernel_rfl) (fun _ _ _ h => h) (Or.inl ⟨by simp [Region.wanted, yielded, undef], ?_⟩) (by assumption) ?_
        rotate_left
        · ((intro w hSw; (try dsimp only at hSw); go_simp) <;> with_reducible rfl)
        (try simp only [Act.put, List.setIfInBounds_toArray, List.set_cons_zero, List.set_cons_succ])
        refine wpAnyH_ready (rs := [16]) (by kernel_rfl) (by simp) ?_
        refine (AllReadyH.cons rfl (fun K hK => ?_) AllReadyH.nil)
        have cx := HN.out.cells.2.2.1
        have fx := HN.out.froz 2
        go_simp
        clear cx fx
        refine hK.out _ _ ?_ (fun hHeld => ?_)
        · (try dsimp only)
          try trivial
        clear hK K
        (try simp only [Act.put, List.setIfInBounds_toArray, List.set_cons_zero, List.set_cons_succ])
        have HN := Lib.hid (HN.out.put 2 (.slice Al ((lsM ys).length + 1) cl) (bP' := .slice none 0 0) (bL' := (.slice Al ((lsM ys).length + 1) cl)) (bK' := (.slice Ak ((ksM ys).length + 1) ck)) rfl)
        generalize W.setCell ⟨w.heap.size + 1, 2, none⟩ (.slice Al ((lsM ys).length + 1) cl) = V at HN hHeld ⊢
        rename World => W
        refine wpAnyH_done (by kernel_rfl) ?_ _
        refine NoPanic.normal ?_
        focus
          go_wp2_with fail
          go_roundw
          case rel =>
            refine ⟨k + 1, (.slice Al ((lsM ys).length + 1) cl), (.slice Ak ((ksM ys).length + 1) ck), by omega, by go_num, ?_, ?_⟩
            · rw [HTK.out, List.any_append, HYE.out]; rfl
            · rw [HTK.out, lsM_snoc, ksM_snoc]
              exact HN.out
          case measure => simp [intOf]; omega
        go_simp
        refine hK.out _ _ ?_ (fun hHeld => ?_)
        · (try dsimp only)
          try trivial
        clear hK K
        (try simp only [Act.put, List.setIfInBounds_toArray, List.set_cons_zero, List.set_cons_succ])
        obtain ⟨V, hV⟩ : ∃ V : World, V = W.alloc (.cells #[.string (bs r)] 9) := ⟨_, rfl⟩
        rw [← hV]
        have hbW : Below W.heap.size W V := by rw [hV]; exact (Below.refl _ _).alloc (Nat.le_refl _) _
        have HFL : Hid (V.heap[W.heap.size]? = some (.cells #[.string (bs r)] 9 (0, 0))) := by rw [hV]; exact heap_alloc_new _ _
        have HN := Lib.hid (HN.out.old hbW)
        clear hV hbW
        generalize W.heap.size = gpos at HFL
        rename World => W
        refine wpAnyH_ready (rs := [5, 8]) (by kernel_rfl) (by simp) ?_
        refine (AllReadyH.cons (o := ⟨some 58, _, _, _, _, _⟩) rfl (fun K hK => ?_) (AllReadyH.cons (o := ⟨some 61, _, _, _, _, _⟩) rfl (fun K hK => ?_) AllReadyH.nil))
        go_simp
        refine hK.out _ _ ?_ (fun hHeld => ?_)
        · (try dsimp only)
          try trivial
        clear hK K
        (try simp only [Act.put, List.setIfInBounds_toArray, List.set_cons_zero, List.set_cons_succ])
        obtain ⟨V, hV⟩ : ∃ V : World, V = W.alloc (.cells #[.int .i64 (a.toNat : Int)] 3) := ⟨_, rfl⟩
        rw [← hV]
        have hbW : Below W.heap.size W V := by rw [hV]; exact (Below.refl _ _).alloc (Nat.le_refl _) _
        have HFI : Hid (V.heap[W.heap.size]? = some (.cells #[.int .i64 (a.toNat : Int)] 3 (0, 0))) := by rw [hV]; exact heap_alloc_new _ _
        have HFL := Lib.hid ((hbW.block _ (Array.getElem?_eq_some_iff.1 HFL.out).1).trans HFL.out)
        have HN := Lib.hid (HN.out.old hbW)
        clear hV hbW
        generalize W.heap.size = gpos at HFI
        rename World => W
        refine wpAnyH_ready (rs := [6, 8]) (by kernel_rfl) (by simp) ?_
        refine (AllReadyH.cons (o := ⟨some 59, _, _, _, _, _⟩) rfl (fun K hK => ?_) (AllReadyH.cons (o := ⟨some 61, _, _, _, _, _⟩) rfl (fun K hK => ?_) AllReadyH.nil))
        refine step_push_one elInt rfl _ _ rfl w.heap.size vK (ksM ys).length ((ksM ys).map ivi) rfl HN.out.k _ [ivi (a.toNat : Int)] HFI.out rfl rfl (by simp [Value.oneCell']) (by rw [ksM_len]; have := HYL.out; simp only [maxLen]; omega) (by rw [ksM_len]; have := HYL.out; omega) (Nat.le_of_lt HN.out.rl) ?_
        intro v6 V hp
        obtain ⟨Ak, ck, rfl, _⟩ := own_form hp.1
        refine hK.out _ _ ?_ (fun hHeld => ?_)
        · (try dsimp only)
          try trivial
        clear hK K
        (try simp only [Act.put, List.setIfInBounds_toArray, List.set_cons_zero, List.set_cons_succ])
        have HFL := Lib.hid ((hp.2.block _ (Array.getElem?_eq_some_iff.1 HFL.out).1 (fun e => own_ne_blk' HN.out.k HFL.out (by decide) e.symm)).trans HFL.out)
        have HN := Lib.hid (HN.out.pushK (z := (a.toNat : Int)) hp)
        clear hp
        rename World => W
        refine wpAnyH_ready (rs := [8]) (by kernel_rfl) (by simp) ?_
        refine (AllReadyH.cons (o := ⟨some 61, _, _, _, _, _⟩) rfl (fun K hK => ?_) AllReadyH.nil)
        have cx := HN.out.cells.2.2.1
        go_simp
        clear cx
        refine hK.out _ _ ?_ (fun hHeld => ?_)
        · (try dsimp only)
          try trivial
        clear hK K
        (try simp only [Act.put, List.setIfInBounds_toArray, List.set_cons_zero, List.set_cons_succ])
        refine wpAnyH_take (i := 13) (oi := ⟨some 66, _, _, _, _, _⟩) (v := ?_) rfl (by kernel_rfl) (by kernel_rfl) (by kernel_rfl) (fun _ _ _ h => h) (Or.inl ⟨by simp [Region.wanted, yielded, undef], ?_⟩) (by assumption) ?_
        rotate_left
        · ((intro w hSw; (try dsimp only at hSw); go_simp) <;> with_reducible rfl)
        (try simp only [Act.put, List.setIfInBounds_toArray, List.set_cons_zero, List.set_cons_succ])
        refine wpAnyH_ready (rs := [12]) (by kernel_rfl) (by simp) ?_
        refine (AllReadyH.cons (o := ⟨some 65, _, _, _, _, _⟩) rfl (fun K hK => ?_) AllReadyH.nil)
        refine step_push_one elStr rfl _ _ rfl w.heap.size vL (lsM ys).length ((lsM ys).map Value.string) rfl HN.out.s _ [.string (bs r)] HFL.out rfl rfl (by simp [Value.oneCell']) (by rw [lsM_len]; have := HYL.out; simp only [maxLen]; omega) (by rw [lsM_len]; have := HYL.out; omega) (Nat.le_of_lt HN.out.rl) ?_
        intro v7 V hp
        obtain ⟨Al, cl, rfl, _⟩ := own_form hp.1
        refine hK.out _ _ ?_ (fun hHeld => ?_)
        · (try dsimp only)
          try trivial
        clear hK K
        (try simp only [Act.put, List.setIfInBounds_toArray, List.set_cons_zero, List.set_cons_succ])
        have HN := Lib.hid (HN.out.pushL (x := bs r) hp)
        clear hp
        rename World => W
        refine wpAnyH_ready (rs := [14]) (by kernel_rfl) (by simp) ?_
        refine (AllReadyH.cons rfl (fun K hK => ?_) AllReadyH.nil)
        have cx := HN.out.cells.2.2.2
        have fx := HN.out.froz 3
        go_simp
        clear cx fx
        refine hK.out _ _ ?_ (fun hHeld => ?_)
        · (try dsimp only)
          try trivial
        clear hK K
        (try simp only [Act.put, List.setIfInBounds_toArray, List.set_cons_zero, List.set_cons_succ])
        have HN := Lib.hid (HN.out.put 3 (.slice Ak ((ksM ys).length + 1) ck) (bP' := .slice none 0 0) (bL' := vL) (bK' := (.slice Ak ((ksM ys).length + 1) ck)) rfl)
        generalize W.setCell ⟨w.heap.size + 1, 3, none⟩ (.slice Ak ((ksM ys).length + 1) ck) = V at HN hHeld ⊢
        rename World => W
        refine wpAnyH_take (i := 15) (oi := ⟨some 67, _, _, _, _, _⟩) (v := ?_) rfl (by kernel_rfl) (by kernel_rfl) (by kernel_rfl) (fun _ _ _ h => h) (Or.inl ⟨by simp [Region.wanted, yielded, undef], ?_⟩) (by assumption) ?_
        rotate_left
        · ((intro w hSw; (try dsimp only at hSw); go_simp) <;> with_reducible rfl)
        (try simp only [Act.put, List.setIfInBounds_toArray, List.set_cons_zero, List.set_cons_succ])
        refine wpAnyH_ready (rs := [16]) (by kernel_rfl) (by simp) ?_
        refine (AllReadyH.cons rfl (fun K hK => ?_) AllReadyH.nil)
        have cx := HN.out.cells.2.2.1
        have fx := HN.out.froz 2
        go_simp
        clear cx fx
        refine hK.out _ _ ?_ (fun hHeld => ?_)
        · (try dsimp only)
          try trivial
        clear hK K
        (try simp only [Act.put, List.setIfInBounds_toArray, List.set_cons_zero, List.set_cons_succ])
        have HN := Lib.hid (HN.out.put 2 (.slice Al ((lsM ys).length + 1) cl) (bP' := .slice none 0 0) (bL' := (.slice Al ((lsM ys).length + 1) cl)) (bK' := (.slice Ak ((ksM ys).length + 1) ck)) rfl)
        generalize W.setCell ⟨w.heap.size + 1, 2, none⟩ (.slice Al ((lsM ys).length + 1) cl) = V at HN hHeld ⊢
        rename World => W
        refine wpAnyH_done (by kernel_rfl) ?_ _
        refine NoPanic.normal ?_
        focus
          go_wp2_with fail
          go_roundw
          case rel =>
            refine ⟨k + 1, (.slice Al ((lsM ys).length + 1) cl), (.slice Ak ((ksM ys).length + 1) ck), by omega, by go_num, ?_, ?_⟩
            · rw [HTK.out, List.any_append, HYE.out]; rfl
            · rw [HTK.out, lsM_snoc, ksM_snoc]
              exact HN.out
          case measure => simp [intOf]; omega
        have cx := HN.out.cells.2.2.1
        go_simp
        clear cx
        refine hK.out _ _ ?_ (fun hHeld => ?_)
        · (try dsimp only)
          try trivial
        clear hK K
        (try simp only [Act.put, List.setIfInBounds_toArray, List.set_cons_zero, List.set_cons_succ])
        refine wpAnyH_ready (rs := [6]) (by kernel_rfl) (by simp) ?_
        refine (AllReadyH.cons (o := ⟨some 59, _, _, _, _, _⟩) rfl (fun K hK => ?_) AllReadyH.nil)
        refine step_push_one elInt rfl _ _ rfl w.heap.size vK (ksM ys).length ((ksM ys).map ivi) rfl HN.out.k _ [ivi (a.toNat : Int)] HFI.out rfl rfl (by simp [Value.oneCell']) (by rw [ksM_len]; have := HYL.out; simp only [maxLen]; omega) (by rw [ksM_len]; have := HYL.out; omega) (Nat.le_of_lt HN.out.rl) ?_
        intro v6 V hp
        obtain ⟨Ak, ck, rfl, _⟩ := own_form hp.1
        refine hK.out _ _ ?_ (fun hHeld => ?_)
        · (try dsimp only)
          try trivial
        clear hK K
        (try simp only [Act.put, List.setIfInBounds_toArray, List.set_cons_zero, List.set_cons_succ])
        have HFL := Lib.hid ((hp.2.block _ (Array.getElem?_eq_some_iff.1 HFL.out).1 (fun e => own_ne_blk' HN.out.k HFL.out (by decide) e.symm)).trans HFL.out)
        have HN := Lib.hid (HN.out.pushK (z := (a.toNat : Int)) hp)
        clear hp
        rename World => W
        refine wpAnyH_take (i := 13) (oi := ⟨some 66, _, _, _, _, _⟩) (v := ?_) rfl (by kernel_rfl) (by kernel_rfl) (by kernel_rfl) (fun _ _ _ h => h) (Or.inl ⟨by simp [Region.wanted, yielded, undef], ?_⟩) (by assumption) ?_
        rotate_left
        · ((intro w hSw; (try dsimp only at hSw); go_simp) <;> with_reducible rfl)
        (try simp only [Act.put, List.setIfInBounds_toArray, List.set_cons_zero, List.set_cons_succ])
        refine wpAnyH_ready (rs := [12]) (by kernel_rfl) (by simp) ?_
        refine (AllReadyH.cons (o := ⟨some 65, _, _, _, _, _⟩) rfl (fun K hK => ?_) AllReadyH.nil)
        refine step_push_one elStr rfl _ _ rfl w.heap.size vL (lsM ys).length ((lsM ys).map Value.string) rfl HN.out.s _ [.string (bs r)] HFL.out rfl rfl (by simp [Value.oneCell']) (by rw [lsM_len]; have := HYL.out; simp only [maxLen]; omega) (by rw [lsM_len]; have := HYL.out; omega) (Nat.le_of_lt HN.out.rl) ?_
        intro v7 V hp
        obtain ⟨Al, cl, rfl, _⟩ := own_form hp.1
        refine hK.out _ _ ?_ (fun hHeld => ?_)
        · (try dsimp only)
          try trivial
        clear hK K
        (try simp only [Act.put, List.setIfInBounds_toArray, List.set_cons_zero, List.set_cons_succ])
        have HN := Lib.hid (HN.out.pushL (x := bs r) hp)
        clear hp
        rename World => W
        refine wpAnyH_ready (rs := [14]) (by kernel_rfl) (by simp) ?_
        refine (AllReadyH.cons rfl (fun K hK => ?_) AllReadyH.nil)
        have cx := HN.out.cells.2.2.2
        have fx := HN.out.froz 3
        go_simp
        clear cx fx
        refine hK.out _ _ ?_ (fun hHeld => ?_)
        · (try dsimp only)
          try trivial
        clear hK K
        (try simp only [Act.put, List.setIfInBounds_toArray, List.set_cons_zero, List.set_cons_succ])
        have HN := Lib.hid (HN.out.put 3 (.slice Ak ((ksM ys).length + 1) ck) (bP' := .slice none 0 0) (bL' := vL) (bK' := (.slice Ak ((ksM ys).length + 1) ck)) rfl)
        generalize W.setCell ⟨w.heap.size + 1, 3, none⟩ (.slice Ak ((ksM ys).length + 1) ck) = V at HN hHeld ⊢
        rename World => W
        refine wpAnyH_take (i := 15) (oi := ⟨some 67, _, _, _, _, _⟩) (v := ?_) rfl (by kernel_rfl) (by kernel_rfl) (by kernel_rfl) (fun _ _ _ h => h) (Or.inl ⟨by simp [Region.wanted, yielded, undef], ?_⟩) (by assumption) ?_
        rotate_left
        · ((intro w hSw; (try dsimp only at hSw); go_simp) <;> with_reducible rfl)
        (try simp only [Act.put, List.setIfInBounds_toArray, List.set_cons_zero, List.set_cons_succ])
        refine wpAnyH_ready (rs := [16]) (by kernel_rfl) (by simp) ?_
        refine (AllReadyH.cons rfl (fun K hK => ?_) AllReadyH.nil)
        have cx := HN.out.cells.2.2.1
        have fx := HN.out.froz 2
        go_simp
        clear cx fx
        refine hK.out _ _ ?_ (fun hHeld => ?_)
        · (try dsimp only)
          try trivial
        clear hK K
        (try simp only [Act.put, List.setIfInBounds_toArray, List.set_cons_zero, List.set_cons_succ])
        have HN := Lib.hid (HN.out.put 2 (.slice Al ((lsM ys).length + 1) cl) (bP' := .slice none 0 0) (bL' := (.slice Al ((lsM ys).length + 1) cl)) (bK' := (.slice Ak ((ksM ys).length + 1) ck)) rfl)
        generalize W.setCell ⟨w.heap.size + 1, 2, none⟩ (.slice Al ((lsM ys).length + 1) cl) = V at HN hHeld ⊢
        rename World => W
        refine wpAnyH_done (by kernel_rfl) ?_ _
        refine NoPanic.normal ?_
        focus
          go_wp2_with fail
          go_roundw
          case rel =>
            refine ⟨k + 1, (.slice Al ((lsM ys).length + 1) cl), (.slice Ak ((ksM ys).length + 1) ck), by omega, by go_num, ?_, ?_⟩
            · rw [HTK.out, List.any_append, HYE.out]; rfl
            · rw [HTK.out, lsM_snoc, ksM_snoc]
              exact HN.out
          case measure => simp [intOf]; omega
        have cx := HN.out.cells.2.2.1
        go_simp
        clear cx
        refine hK.out _ _ ?_ (fun hHeld => ?_)
        · (try dsimp only)
          try trivial
        clear hK K
        (try simp only [Act.put, List.setIfInBounds_toArray, List.set_cons_zero, List.set_cons_succ])
        refine wpAnyH_ready (rs := [5]) (by kernel_rfl) (by simp) ?_
        refine (AllReadyH.cons (o := ⟨some 58, _, _, _, _, _⟩) rfl (fun K hK => ?_) AllReadyH.nil)
        go_simp
        refine hK.out _ _ ?_ (fun hHeld => ?_)
        · (try dsimp only)
          try trivial
        clear hK K
        (try simp only [Act.put, List.setIfInBounds_toArray, List.set_cons_zero, List.set_cons_succ])
        obtain ⟨V, hV⟩ : ∃ V : World, V = W.alloc (.cells #[.int .i64 (a.toNat : Int)] 3) := ⟨_, rfl⟩
        rw [← hV]
        have hbW : Below W.heap.size W V := by rw [hV]; exact (Below.refl _ _).alloc (Nat.le_refl _) _
        have HFI : Hid (V.heap[W.heap.size]? = some (.cells #[.int .i64 (a.toNat : Int)] 3 (0, 0))) := by rw [hV]; exact heap_alloc_new _ _
        have HFL := Lib.hid ((hbW.block _ (Array.getElem?_eq_some_iff.1 HFL.out).1).trans HFL.out)
        have HN := Lib.hid (HN.out.old hbW)
        clear hV hbW
        generalize W.heap.size = gpos at HFI
        rename World => W
        refine wpAnyH_ready (rs := [6]) (by kernel_rfl) (by simp) ?_
        refine (AllReadyH.cons (o := ⟨some 59, _, _, _, _, _⟩) rfl (fun K hK => ?_) AllReadyH.nil)
        refine step_push_one elInt rfl _ _ rfl w.heap.size vK (ksM ys).length ((ksM ys).map ivi) rfl HN.out.k _ [ivi (a.toNat : Int)] HFI.out rfl rfl (by simp [Value.oneCell']) (by rw [ksM_len]; have := HYL.out; simp only [maxLen]; omega) (by rw [ksM_len]; have := HYL.out; omega) (Nat.le_of_lt HN.out.rl) ?_
        intro v6 V hp
        obtain ⟨Ak, ck, rfl, _⟩ := own_form hp.1
        refine hK.out _ _ ?_ (fun hHeld => ?_)
        · (try dsimp only)
          try trivial
        clear hK K
        (try simp only [Act.put, List.setIfInBounds_toArray, List.set_cons_zero, List.set_cons_succ])
        have HFL := Lib.hid ((hp.2.block _ (Array.getElem?_eq_some_iff.1 HFL.out).1 (fun e => own_ne_blk' HN.out.k HFL.out (by decide) e.symm)).trans HFL.out)
        have HN := Lib.hid (HN.out.pushK (z := (a.toNat : Int)) hp)
        clear hp
        rename World => W
        refine wpAnyH_take (i := 13) (oi := ⟨some 66, _, _, _, _, _⟩) (v := ?_) rfl (by kernel_rfl) (by kernel_rfl) (by kernel_rfl) (fun _ _ _ h => h) (Or.inl ⟨by simp [Region.wanted, yielded, undef], ?_⟩) (by assumption) ?_
        rotate_left
        · ((intro w hSw; (try dsimp only at hSw); go_simp) <;> with_reducible rfl)
        (try simp only [Act.put, List.setIfInBounds_toArray, List.set_cons_zero, List.set_cons_succ])
        refine wpAnyH_ready (rs := [12]) (by kernel_rfl) (by simp) ?_
        refine (AllReadyH.cons (o := ⟨some 65, _, _, _, _, _⟩) rfl (fun K hK => ?_) AllReadyH.nil)
        refine step_push_one elStr rfl _ _ rfl w.heap.size vL (lsM ys).length ((lsM ys).map Value.string) rfl HN.out.s _ [.string (bs r)] HFL.out rfl rfl (by simp [Value.oneCell']) (by rw [lsM_len]; have := HYL.out; simp only [maxLen]; omega) (by rw [lsM_len]; have := HYL.out; omega) (Nat.le_of_lt HN.out.rl) ?_
        intro v7 V hp
        obtain ⟨Al, cl, rfl, _⟩ := own_form hp.1
        refine hK.out _ _ ?_ (fun hHeld => ?_)
        · (try dsimp only)
          try trivial
        clear hK K
        (try simp only [Act.put, List.setIfInBounds_toArray, List.set_cons_zero, List.set_cons_succ])
        have HN := Lib.hid (HN.out.pushL (x := bs r) hp)
        clear hp
        rename World => W
        refine wpAnyH_ready (rs := [14]) (by kernel_rfl) (by simp) ?_
        refine (AllReadyH.cons rfl (fun K hK => ?_) AllReadyH.nil)
        have cx := HN.out.cells.2.2.2
        have fx := HN.out.froz 3
        go_simp
        clear cx fx
        refine hK.out _ _ ?_ (fun hHeld => ?_)
        · (try dsimp only)
          try trivial
        clear hK K
        (try simp only [Act.put, List.setIfInBounds_toArray, List.set_cons_zero, List.set_cons_succ])
        have HN := Lib.hid (HN.out.put 3 (.slice Ak ((ksM ys).length + 1) ck) (bP' := .slice none 0 0) (bL' := vL) (bK' := (.slice Ak ((ksM ys).length + 1) ck)) rfl)
        generalize W.setCell ⟨w.heap.size + 1, 3, none⟩ (.slice Ak ((ksM ys).length + 1) ck) = V at HN hHeld ⊢
        rename World => W
        refine wpAnyH_take (i := 15) (oi := ⟨some 67, _, _, _, _, _⟩) (v := ?_) rfl (by kernel_rfl) (by kernel_rfl) (by kernel_rfl) (fun _ _ _ h => h) (Or.inl ⟨by simp [Region.wanted, yielded, undef], ?_⟩) (by assumption) ?_
        rotate_left
        · ((intro w hSw; (try dsimp only at hSw); go_simp) <;> with_reducible rfl)
        (try simp only [Act.put, List.setIfInBounds_toArray, List.set_cons_zero, List.set_cons_succ])
        refine wpAnyH_ready (rs := [16]) (by kernel_rfl) (by simp) ?_
        refine (AllReadyH.cons rfl (fun K hK => ?_) AllReadyH.nil)
        have cx := HN.out.cells.2.2.1
        have fx := HN.out.froz 2
        go_simp
        clear cx fx
        refine hK.out _ _ ?_ (fun hHeld => ?_)
        · (try dsimp only)
          try trivial
        clear hK K
        (try simp only [Act.put, List.setIfInBounds_toArray, List.set_cons_zero, List.set_cons_succ])
        have HN := Lib.hid (HN.out.put 2 (.slice Al ((lsM ys).length + 1) cl) (bP' := .slice none 0 0) (bL' := (.slice Al ((lsM ys).length + 1) cl)) (bK' := (.slice Ak ((ksM ys).length + 1) ck)) rfl)
        generalize W.setCell ⟨w.heap.size + 1, 2, none⟩ (.slice Al ((lsM ys).length + 1) cl) = V at HN hHeld ⊢
        rename World => W
        refine wpAnyH_done (by kernel_rfl) ?_ _
        refine NoPanic.normal ?_
        focus
          go_wp2_with fail
          go_roundw
          case rel =>
            refine ⟨k + 1, (.slice Al ((lsM ys).length + 1) cl), (.slice Ak ((ksM ys).length + 1) ck), by omega, by go_num, ?_, ?_⟩
            · rw [HTK.out, List.any_append, HYE.out]; rfl
            · rw [HTK.out, lsM_snoc, ksM_snoc]
              exact HN.out
          case measure => simp [intOf]; omega
        go_simp
        refine hK.out _ _ ?_ (fun hHeld => ?_)
        · (try dsimp only)
          try trivial
        clear hK K
        (try simp only [Act.put, List.setIfInBounds_toArray, List.set_cons_zero, List.set_cons_succ])
        obtain ⟨V, hV⟩ : ∃ V : World, V = W.alloc (.cells #[.int .i64 (a.toNat : Int)] 3) := ⟨_, rfl⟩
        rw [← hV]
        have hbW : Below W.heap.size W V := by rw [hV]; exact (Below.refl _ _).alloc (Nat.le_refl _) _
        have HFI : Hid (V.heap[W.heap.size]? = some (.cells #[.int .i64 (a.toNat : Int)] 3 (0, 0))) := by rw [hV]; exact heap_alloc_new _ _
        have HN := Lib.hid (HN.out.old hbW)
        clear hV hbW
        generalize W.heap.size = gpos at HFI
        rename World => W
        refine wpAnyH_ready (rs := [1, 8, 11]) (by kernel_rfl) (by simp) ?_
        refine (AllReadyH.cons (o := ⟨some 54, _, _, _, _, _⟩) rfl (fun K hK => ?_) (AllReadyH.cons (o := ⟨some 61, _, _, _, _, _⟩) rfl (fun K hK => ?_) (AllReadyH.cons (o := ⟨some 64, _, _, _, _, _⟩) rfl (fun K hK => ?_) AllReadyH.nil)))
        have cx := HN.out.cells.2.2.2
        go_simp
        clear cx
        refine hK.out _ _ ?_ (fun hHeld => ?_)
        · (try dsimp only)
          try trivial
        clear hK K
        (try simp only [Act.put, List.setIfInBounds_toArray, List.set_cons_zero, List.set_cons_succ])
        refine wpAnyH_ready (rs := [6, 8, 11]) (by kernel_rfl) (by simp) ?_
        refine (AllReadyH.cons (o := ⟨some 59, _, _, _, _, _⟩) rfl (fun K hK => ?_) (AllReadyH.cons (o := ⟨some 61, _, _, _, _, _⟩) rfl (fun K hK => ?_) (AllReadyH.cons (o := ⟨some 64, _, _, _, _, _⟩) rfl (fun K hK => ?_) AllReadyH.nil)))
        refine step_push_one elInt rfl _ _ rfl w.heap.size vK (ksM ys).length ((ksM ys).map ivi) rfl HN.out.k _ [ivi (a.toNat : Int)] HFI.out rfl rfl (by simp [Value.oneCell']) (by rw [ksM_len]; have := HYL.out; simp only [maxLen]; omega) (by rw [ksM_len]; have := HYL.out; omega) (Nat.le_of_lt HN.out.rl) ?_
        intro v6 V hp
        obtain ⟨Ak, ck, rfl, _⟩ := own_form hp.1
        refine hK.out _ _ ?_ (fun hHeld => ?_)
        · (try dsimp only)
          try trivial
        clear hK K
        (try simp only [Act.put, List.setIfInBounds_toArray, List.set_cons_zero, List.set_cons_succ])
        have HN := Lib.hid (HN.out.pushK (z := (a.toNat : Int)) hp)
        clear hp
        rename World => W
        refine wpAnyH_ready (rs := [8, 11]) (by kernel_rfl) (by simp) ?_
        refine (AllReadyH.cons (o := ⟨some 61, _, _, _, _, _⟩) rfl (fun K hK => ?_) (AllReadyH.cons (o := ⟨some 64, _, _, _, _, _⟩) rfl (fun K hK => ?_) AllReadyH.nil))
        have cx := HN.out.cells.2.2.1
        go_simp
        clear cx
        refine hK.out _ _ ?_ (fun hHeld => ?_)
        · (try dsimp only)
          try trivial
        clear hK K
        (try simp only [Act.put, List.setIfInBounds_toArray, List.set_cons_zero, List.set_cons_succ])
        refine wpAnyH_take (i := 13) (oi := ⟨some 66, _, _, _, _, _⟩) (v := ?_) rfl (by kernel_rfl) (by kernel_rfl) (by kernel_rfl) (fun _ _ _ h => h) (Or.inl ⟨by simp [Region.wanted, yielded, undef], ?_⟩) (by assumption) ?_
        rotate_left
        · ((intro w hSw; (try dsimp only at hSw); go_simp) <;> with_reducible rfl)
        (try simp only [Act.put, List.setIfInBounds_toArray, List.set_cons_zero, List.set_cons_succ])
        refine wpAnyH_ready (rs := [11]) (by kernel_rfl) (by simp) ?_
        refine (AllReadyH.cons (o := ⟨some 64, _, _, _, _, _⟩) rfl (fun K hK => ?_) AllReadyH.nil)
        go_simp
        refine hK.out _ _ ?_ (fun hHeld => ?_)
        · (try dsimp only)
          try trivial
        clear hK K
        (try simp only [Act.put, List.setIfInBounds_toArray, List.set_cons_zero, List.set_cons_succ])
        obtain ⟨V, hV⟩ : ∃ V : World, V = W.alloc (.cells #[.string (bs r)] 9) := ⟨_, rfl⟩
        rw [← hV]
        have hbW : Below W.heap.size W V := by rw [hV]; exact (Below.refl _ _).alloc (Nat.le_refl _) _
        have HFL : Hid (V.heap[W.heap.size]? = some (.cells #[.string (bs r)] 9 (0, 0))) := by rw [hV]; exact heap_alloc_new _ _
        have HN := Lib.hid (HN.out.old hbW)
        clear hV hbW
        generalize W.heap.size = gpos at HFL
        rename World => W
        refine wpAnyH_ready (rs := [12]) (by kernel_rfl) (by simp) ?_
        refine (AllReadyH.cons (o := ⟨some 65, _, _, _, _, _⟩) rfl (fun K hK => ?_) AllReadyH.nil)
        refine step_push_one elStr rfl _ _ rfl w.heap.size vL (lsM ys).length ((lsM ys).map Value.string) rfl HN.out.s _ [.string (bs r)] HFL.out rfl rfl (by simp [Value.oneCell']) (by rw [lsM_len]; have := HYL.out; simp only [maxLen]; omega) (by rw [lsM_len]; have := HYL.out; omega) (Nat.le_of_lt HN.out.rl) ?_
        intro v7 V hp
        obtain ⟨Al, cl, rfl, _⟩ := own_form hp.1
        refine hK.out _ _ ?_ (fun hHeld => ?_)
        · (try dsimp only)
          try trivial
        clear hK K
        (try simp only [Act.put, List.setIfInBounds_toArray, List.set_cons_zero, List.set_cons_succ])
        have HN := Lib.hid (HN.out.pushL (x := bs r) hp)
        clear hp
        rename World => W
        refine wpAnyH_ready (rs := [14]) (by kernel_rfl) (by simp) ?_
        refine (AllReadyH.cons rfl (fun K hK => ?_) AllReadyH.nil)
        have cx := HN.out.cells.2.2.2
        have fx := HN.out.froz 3
        go_simp
        clear cx fx
        refine hK.out _ _ ?_ (fun hHeld => ?_)
        · (try dsimp only)
          try trivial
        clear hK K
        (try simp only [Act.put, List.setIfInBounds_toArray, List.set_cons_zero, List.set_cons_succ])
        have HN := Lib.hid (HN.out.put 3 (.slice Ak ((ksM ys).length + 1) ck) (bP' := .slice none 0 0) (bL' := vL) (bK' := (.slice Ak ((ksM ys).length + 1) ck)) rfl)
        generalize W.setCell ⟨w.heap.size + 1, 3, none⟩ (.slice Ak ((ksM ys).length + 1) ck) = V at HN hHeld ⊢
        rename World => W
        refine wpAnyH_take (i := 15) (oi := ⟨some 67, _, _, _, _, _⟩) (v := ?_) rfl (by kernel_rfl) (by kernel_rfl) (by kernel_rfl) (fun _ _ _ h => h) (Or.inl ⟨by simp [Region.wanted, yielded, undef], ?_⟩) (by assumption) ?_
        rotate_left
        · ((intro w hSw; (try dsimp only at hSw); go_simp) <;> with_reducible rfl)
        (try simp only [Act.put, List.setIfInBounds_toArray, List.set_cons_zero, List.set_cons_succ])
        refine wpAnyH_ready (rs := [16]) (by kernel_rfl) (by simp) ?_
        refine (AllReadyH.cons rfl (fun K hK => ?_) AllReadyH.nil)
        have cx := HN.out.cells.2.2.1
        have fx := HN.out.froz 2
        go_simp
        clear cx fx
        refine hK.out _ _ ?_ (fun hHeld => ?_)
        · (try dsimp only)
          try trivial
        clear hK K
        (try simp only [Act.put, List.setIfInBounds_toArray, List.set_cons_zero, List.set_cons_succ])
        have HN := Lib.hid (HN.out.put 2 (.slice Al ((lsM ys).length + 1) cl) (bP' := .slice none 0 0) (bL' := (.slice Al ((lsM ys).length + 1) cl)) (bK' := (.slice Ak ((ksM ys).length + 1) ck)) rfl)
        generalize W.setCell ⟨w.heap.size + 1, 2, none⟩ (.slice Al ((lsM ys).length + 1) cl) = V at HN hHeld ⊢
        rename World => W
        refine wpAnyH_done (by kernel_rfl) ?_ _
        refine NoPanic.normal ?_
        focus
          go_wp2_with fail
          go_roundw
          case rel =>
            refine ⟨k + 1, (.slice Al ((lsM ys).length + 1) cl), (.slice Ak ((ksM ys).length + 1) ck), by omega, by go_num, ?_, ?_⟩
            · rw [HTK.out, List.any_append, HYE.out]; rfl
            · rw [HTK.out, lsM_snoc, ksM_snoc]
              exact HN.out
          case measure => simp [intOf]; omega
        go_simp
        refine hK.out _ _ ?_ (fun hHeld => ?_)
        · (try dsimp only)
          try trivial
        clear hK K
        (try simp only [Act.put, List.setIfInBounds_toArray, List.set_cons_zero, List.set_cons_succ])
        obtain ⟨V, hV⟩ : ∃ V : World, V = W.alloc (.cells #[.string (bs r)] 9) := ⟨_, rfl⟩
        rw [← hV]
        have hbW : Below W.heap.size W V := by rw [hV]; exact (Below.refl _ _).alloc (Nat.le_refl _) _
        have HFL : Hid (V.heap[W.heap.size]? = some (.cells #[.string (bs r)] 9 (0, 0))) := by rw [hV]; exact heap_alloc_new _ _
        have HN := Lib.hid (HN.out.old hbW)
        clear hV hbW
        generalize W.heap.size = gpos at HFL
        rename World => W
        refine wpAnyH_ready (rs := [8]) (by kernel_rfl) (by simp) ?_
        refine (AllReadyH.cons (o := ⟨some 61, _, _, _, _, _⟩) rfl (fun K hK => ?_) AllReadyH.nil)
        have cx := HN.out.cells.2.2.1
        go_simp
        clear cx
        refine hK.out _ _ ?_ (fun hHeld => ?_)
        · (try dsimp only)
          try trivial
        clear hK K
        (try simp only [Act.put, List.setIfInBounds_toArray, List.set_cons_zero, List.set_cons_succ])
        refine wpAnyH_take (i := 13) (oi := ⟨some 66, _, _, _, _, _⟩) (v := ?_) rfl (by kernel_rfl) (by kernel_rfl) (by kernel_rfl) (fun _ _ _ h => h) (Or.inl ⟨by simp [Region.wanted, yielded, undef], ?_⟩) (by assumption) ?_
        rotate_left
        · ((intro w hSw; (try dsimp only at hSw); go_simp) <;> with_reducible rfl)
        (try simp only [Act.put, List.setIfInBounds_toArray, List.set_cons_zero, List.set_cons_succ])
        refine wpAnyH_ready (rs := [12]) (by kernel_rfl) (by simp) ?_
        refine (AllReadyH.cons (o := ⟨some 65, _, _, _, _, _⟩) rfl (fun K hK => ?_) AllReadyH.nil)
        refine step_push_one elStr rfl _ _ rfl w.heap.size vL (lsM ys).length ((lsM ys).map Value.string) rfl HN.out.s _ [.string (bs r)] HFL.out rfl rfl (by simp [Value.oneCell']) (by rw [lsM_len]; have := HYL.out; simp only [maxLen]; omega) (by rw [lsM_len]; have := HYL.out; omega) (Nat.le_of_lt HN.out.rl) ?_
        intro v7 V hp
        obtain ⟨Al, cl, rfl, _⟩ := own_form hp.1
        refine hK.out _ _ ?_ (fun hHeld => ?_)
        · (try dsimp only)
          try trivial
        clear hK K
        (try simp only [Act.put, List.setIfInBounds_toArray, List.set_cons_zero, List.set_cons_succ])
        have HN := Lib.hid (HN.out.pushL (x := bs r) hp)
        clear hp
        rename World => W
        refine wpAnyH_ready (rs := [14]) (by kernel_rfl) (by simp) ?_
        refine (AllReadyH.cons rfl (fun K hK => ?_) AllReadyH.nil)
        have cx := HN.out.cells.2.2.2
        have fx := HN.out.froz 3
        go_simp
        clear cx fx
        refine hK.out _ _ ?_ (fun hHeld => ?_)
        · (try dsimp only)
          try trivial
        clear hK K
        (try simp only [Act.put, List.setIfInBounds_toArray, List.set_cons_zero, List.set_cons_succ])
        have HN := Lib.hid (HN.out.put 3 (.slice Ak ((ksM ys).length + 1) ck) (bP' := .slice none 0 0) (bL' := vL) (bK' := (.slice Ak ((ksM ys).length + 1) ck)) rfl)
        generalize W.setCell ⟨w.heap.size + 1, 3, none⟩ (.slice Ak ((ksM ys).length + 1) ck) = V at HN hHeld ⊢
        rename World => W
        refine wpAnyH_take (i := 15) (oi := ⟨some 67, _, _, _, _, _⟩) (v := ?_) rfl (by kernel_rfl) (by kernel_rfl) (by kernel_rfl) (fun _ _ _ h => h) (Or.inl ⟨by simp [Region.wanted, yielded, undef], ?_⟩) (by assumption) ?_
        rotate_left
        · ((intro w hSw; (try dsimp only at hSw); go_simp) <;> with_reducible rfl)
        (try simp only [Act.put, List.setIfInBounds_toArray, List.set_cons_zero, List.set_cons_succ])
        refine wpAnyH_ready (rs := [16]) (by kernel_rfl) (by simp) ?_
        refine (AllReadyH.cons rfl (fun K hK => ?_) AllReadyH.nil)
        have cx := HN.out.cells.2.2.1
        have fx := HN.out.froz 2
        go_simp
        clear cx fx
        refine hK.out _ _ ?_ (fun hHeld => ?_)
        · (try dsimp only)
          try trivial
        clear hK K
        (try simp only [Act.put, List.setIfInBounds_toArray, List.set_cons_zero, List.set_cons_succ])
        have HN := Lib.hid (HN.out.put 2 (.slice Al ((lsM ys).length + 1) cl) (bP' := .slice none 0 0) (bL' := (.slice Al ((lsM ys).length + 1) cl)) (bK' := (.slice Ak ((ksM ys).length + 1) ck)) rfl)
        generalize W.setCell ⟨w.heap.size + 1, 2, none⟩ (.slice Al ((lsM ys).length + 1) cl) = V at HN hHeld ⊢
        rename World => W
        refine wpAnyH_done (by kernel_rfl) ?_ _
        refine NoPanic.normal ?_
        focus
          go_wp2_with fail
          go_roundw
          case rel =>
            refine ⟨k + 1, (.slice Al ((lsM ys).length + 1) cl), (.slice Ak ((ksM ys).length + 1) ck), by omega, by go_num, ?_, ?_⟩
            · rw [HTK.out, List.any_append, HYE.out]; rfl
            · rw [HTK.out, lsM_snoc, ksM_snoc]
              exact HN.out
          case measure => simp [intOf]; omega
        have cx := HN.out.cells.2.2.1
        go_simp
        clear cx
        refine hK.out _ _ ?_ (fun hHeld => ?_)
        · (try dsimp only)
          try trivial
        clear hK K
        (try simp only [Act.put, List.setIfInBounds_toArray, List.set_cons_zero, List.set_cons_succ])
        refine wpAnyH_ready (rs := [6, 11]) (by kernel_rfl) (by simp) ?_
        refine (AllReadyH.cons (o := ⟨some 59, _, _, _, _, _⟩) rfl (fun K hK => ?_) (AllReadyH.cons (o := ⟨some 64, _, _, _, _, _⟩) rfl (fun K hK => ?_) AllReadyH.nil))
        refine step_push_one elInt rfl _ _ rfl w.heap.size vK (ksM ys).length ((ksM ys).map ivi) rfl HN.out.k _ [ivi (a.toNat : Int)] HFI.out rfl rfl (by simp [Value.oneCell']) (by rw [ksM_len]; have := HYL.out; simp only [maxLen]; omega) (by rw [ksM_len]; have := HYL.out; omega) (Nat.le_of_lt HN.out.rl) ?_
        intro v6 V hp
        obtain ⟨Ak, ck, rfl, _⟩ := own_form hp.1
        refine hK.out _ _ ?_ (fun hHeld => ?_)
        · (try dsimp only)
          try trivial
        clear hK K
        (try simp only [Act.put, List.setIfInBounds_toArray, List.set_cons_zero, List.set_cons_succ])
        have HN := Lib.hid (HN.out.pushK (z := (a.toNat : Int)) hp)
        clear hp
        rename World => W
        refine wpAnyH_take (i := 13) (oi := ⟨some 66, _, _, _, _, _⟩) (v := ?_) rfl (by kernel_rfl) (by kernel_rfl) (by kernel_rfl) (fun _ _ _ h => h) (Or.inl ⟨by simp [Region.wanted, yielded, undef], ?_⟩) (by assumption) ?_
        rotate_left
        · ((intro w hSw; (try dsimp only at hSw); go_simp) <;> with_reducible rfl)
        (try simp only [Act.put, List.setIfInBounds_toArray, List.set_cons_zero, List.set_cons_succ])
        refine wpAnyH_ready (rs := [11]) (by kernel_rfl) (by simp) ?_
        refine (AllReadyH.cons (o := ⟨some 64, _, _, _, _, _⟩) rfl (fun K hK => ?_) AllReadyH.nil)
        go_simp
        refine hK.out _ _ ?_ (fun hHeld => ?_)
        · (try dsimp only)
          try trivial
        clear hK K
        (try simp only [Act.put, List.setIfInBounds_toArray, List.set_cons_zero, List.set_cons_succ])
        obtain ⟨V, hV⟩ : ∃ V : World, V = W.alloc (.cells #[.string (bs r)] 9) := ⟨_, rfl⟩
        rw [← hV]
        have hbW : Below W.heap.size W V := by rw [hV]; exact (Below.refl _ _).alloc (Nat.le_refl _) _
        have HFL : Hid (V.heap[W.heap.size]? = some (.cells #[.string (bs r)] 9 (0, 0))) := by rw [hV]; exact heap_alloc_new _ _
        have HN := Lib.hid (HN.out.old hbW)
        clear hV hbW
        generalize W.heap.size = gpos at HFL
        rename World => W
        refine wpAnyH_ready (rs := [12]) (by kernel_rfl) (by simp) ?_
        refine (AllReadyH.cons (o := ⟨some 65, _, _, _, _, _⟩) rfl (fun K hK => ?_) AllReadyH.nil)
        refine step_push_one elStr rfl _ _ rfl w.heap.size vL (lsM ys).length ((lsM ys).map Value.string) rfl HN.out.s _ [.string (bs r)] HFL.out rfl rfl (by simp [Value.oneCell']) (by rw [lsM_len]; have := HYL.out; simp only [maxLen]; omega) (by rw [lsM_len]; have := HYL.out; omega) (Nat.le_of_lt HN.out.rl) ?_
        intro v7 V hp
        obtain ⟨Al, cl, rfl, _⟩ := own_form hp.1
        refine hK.out _ _ ?_ (fun hHeld => ?_)
        · (try dsimp only)
          try trivial
        clear hK K
        (try simp only [Act.put, List.setIfInBounds_toArray, List.set_cons_zero, List.set_cons_succ])
        have HN := Lib.hid (HN.out.pushL (x := bs r) hp)
        clear hp
        rename World => W
        refine wpAnyH_ready (rs := [14]) (by kernel_rfl) (by simp) ?_
        refine (AllReadyH.cons rfl (fun K hK => ?_) AllReadyH.nil)
        have cx := HN.out.cells.2.2.2
        have fx := HN.out.froz 3
        go_simp
        clear cx fx
        refine hK.out _ _ ?_ (fun hHeld => ?_)
        · (try dsimp only)
          try trivial
        clear hK K
        (try simp only [Act.put, List.setIfInBounds_toArray, List.set_cons_zero, List.set_cons_succ])
        have HN := Lib.hid (HN.out.put 3 (.slice Ak ((ksM ys).length + 1) ck) (bP' := .slice none 0 0) (bL' := vL) (bK' := (.slice Ak ((ksM ys).length + 1) ck)) rfl)
        generalize W.setCell ⟨w.heap.size + 1, 3, none⟩ (.slice Ak ((ksM ys).length + 1) ck) = V at HN hHeld ⊢
        rename World => W
        refine wpAnyH_take (i := 15) (oi := ⟨some 67, _, _, _, _, _⟩) (v := ?_) rfl (by kernel_rfl) (by kernel_rfl) (by kernel_rfl) (fun _ _ _ h => h) (Or.inl ⟨by simp [Region.wanted, yielded, undef], ?_⟩) (by assumption) ?_
        rotate_left
        · ((intro w hSw; (try dsimp only at hSw); go_simp) <;> with_reducible rfl)
        (try simp only [Act.put, List.setIfInBounds_toArray, List.set_cons_zero, List.set_cons_succ])
        refine wpAnyH_ready (rs := [16]) (by kernel_rfl) (by simp) ?_
        refine (AllReadyH.cons rfl (fun K hK => ?_) AllReadyH.nil)
        have cx := HN.out.cells.2.2.1
        have fx := HN.out.froz 2
        go_simp
        clear cx fx
        refine hK.out _ _ ?_ (fun hHeld => ?_)
        · (try dsimp only)
          try trivial
        clear hK K
        (try simp only [Act.put, List.setIfInBounds_toArray, List.set_cons_zero, List.set_cons_succ])
        have HN := Lib.hid (HN.out.put 2 (.slice Al ((lsM ys).length + 1) cl) (bP' := .slice none 0 0) (bL' := (.slice Al ((lsM ys).length + 1) cl)) (bK' := (.slice Ak ((ksM ys).length + 1) ck)) rfl)
        generalize W.setCell ⟨w.heap.size + 1, 2, none⟩ (.slice Al ((lsM ys).length + 1) cl) = V at HN hHeld ⊢
        rename World => W
        refine wpAnyH_done (by kernel_rfl) ?_ _
        refine NoPanic.normal ?_
        focus
          go_wp2_with fail
          go_roundw
          case rel =>
            refine ⟨k + 1, (.slice Al ((lsM ys).length + 1) cl), (.slice Ak ((ksM ys).length + 1) ck), by omega, by go_num, ?_, ?_⟩
            · rw [HTK.out, List.any_append, HYE.out]; rfl
            · rw [HTK.out, lsM_snoc, ksM_snoc]
              exact HN.out
          case measure => simp [intOf]; omega
        go_simp
        refine hK.out _ _ ?_ (fun hHeld => ?_)
        · (try dsimp only)
          try trivial
        clear hK K
        (try simp only [Act.put, List.setIfInBounds_toArray, List.set_cons_zero, List.set_cons_succ])
        obtain ⟨V, hV⟩ : ∃ V : World, V = W.alloc (.cells #[.string (bs r)] 9) := ⟨_, rfl⟩
        rw [← hV]
        have hbW : Below W.heap.size W V := by rw [hV]; exact (Below.refl _ _).alloc (Nat.le_refl _) _
        have HFL : Hid (V.heap[W.heap.size]? = some (.cells #[.string (bs r)] 9 (0, 0))) := by rw [hV]; exact heap_alloc_new _ _
        have HFI := Lib.hid ((hbW.block _ (Array.getElem?_eq_some_iff.1 HFI.out).1).trans HFI.out)
        have HN := Lib.hid (HN.out.old hbW)
        clear hV hbW
        generalize W.heap.size = gpos at HFL
        rename World => W
        refine wpAnyH_ready (rs := [6]) (by kernel_rfl) (by simp) ?_
        refine (AllReadyH.cons (o := ⟨some 59, _, _, _, _, _⟩) rfl (fun K hK => ?_) AllReadyH.nil)
        refine step_push_one elInt rfl _ _ rfl w.heap.size vK (ksM ys).length ((ksM ys).map ivi) rfl HN.out.k _ [ivi (a.toNat : Int)] HFI.out rfl rfl (by simp [Value.oneCell']) (by rw [ksM_len]; have := HYL.out; simp only [maxLen]; omega) (by rw [ksM_len]; have := HYL.out; omega) (Nat.le_of_lt HN.out.rl) ?_
        intro v6 V hp
        obtain ⟨Ak, ck, rfl, _⟩ := own_form hp.1
        refine hK.out _ _ ?_ (fun hHeld => ?_)
        · (try dsimp only)
          try trivial
        clear hK K
        (try simp only [Act.put, List.setIfInBounds_toArray, List.set_cons_zero, List.set_cons_succ])
        have HFL := Lib.hid ((hp.2.block _ (Array.getElem?_eq_some_iff.1 HFL.out).1 (fun e => own_ne_blk' HN.out.k HFL.out (by decide) e.symm)).trans HFL.out)
        have HN := Lib.hid (HN.out.pushK (z := (a.toNat : Int)) hp)
        clear hp
        rename World => W
        refine wpAnyH_take (i := 13) (oi := ⟨some 66, _, _, _, _, _⟩) (v := ?_) rfl (by kernel_rfl) (by kernel_rfl) (by kernel_rfl) (fun _ _ _ h => h) (Or.inl ⟨by simp [Region.wanted, yielded, undef], ?_⟩) (by assumption) ?_
        rotate_left
        · ((intro w hSw; (try dsimp only at hSw); go_simp) <;> with_reducible rfl)
        (try simp only [Act.put, List.setIfInBounds_toArray, List.set_cons_zero, List.set_cons_succ])
        refine wpAnyH_ready (rs := [12]) (by kernel_rfl) (by simp) ?_
        refine (AllReadyH.cons (o := ⟨some 65, _, _, _, _, _⟩) rfl (fun K hK => ?_) AllReadyH.nil)
        refine step_push_one elStr rfl _ _ rfl w.heap.size vL (lsM ys).length ((lsM ys).map Value.string) rfl HN.out.s _ [.string (bs r)] HFL.out rfl rfl (by simp [Value.oneCell']) (by rw [lsM_len]; have := HYL.out; simp only [maxLen]; omega) (by rw [lsM_len]; have := HYL.out; omega) (Nat.le_of_lt HN.out.rl) ?_
        intro v7 V hp
        obtain ⟨Al, cl, rfl, _⟩ := own_form hp.1
        refine hK.out _ _ ?_ (fun hHeld => ?_)
        · (try dsimp only)
          try trivial
        clear hK K
        (try simp only [Act.put, List.setIfInBounds_toArray, List.set_cons_zero, List.set_cons_succ])
        have HN := Lib.hid (HN.out.pushL (x := bs r) hp)
        clear hp
        rename World => W
        refine wpAnyH_ready (rs := [14]) (by kernel_rfl) (by simp) ?_
        refine (AllReadyH.cons rfl (fun K hK => ?_) AllReadyH.nil)
        have cx := HN.out.cells.2.2.2
        have fx := HN.out.froz 3
        go_simp
        clear cx fx
        refine hK.out _ _ ?_ (fun hHeld => ?_)
        · (try dsimp only)
          try trivial
        clear hK K
        (try simp only [Act.put, List.setIfInBounds_toArray, List.set_cons_zero, List.set_cons_succ])
        have HN := Lib.hid (HN.out.put 3 (.slice Ak ((ksM ys).length + 1) ck) (bP' := .slice none 0 0) (bL' := vL) (bK' := (.slice Ak ((ksM ys).length + 1) ck)) rfl)
        generalize W.setCell ⟨w.heap.size + 1, 3, none⟩ (.slice Ak ((ksM ys).length + 1) ck) = V at HN hHeld ⊢
        rename World => W
        refine wpAnyH_take (i := 15) (oi := ⟨some 67, _, _, _, _, _⟩) (v := ?_) rfl (by kernel_rfl) (by kernel_rfl) (by kernel_rfl) (fun _ _ _ h => h) (Or.inl ⟨by simp [Region.wanted, yielded, undef], ?_⟩) (by assumption) ?_
        rotate_left
        · ((intro w hSw; (try dsimp only at hSw); go_simp) <;> with_reducible rfl)
        (try simp only [Act.put, List.setIfInBounds_toArray, List.set_cons_zero, List.set_cons_succ])
        refine wpAnyH_ready (rs := [16]) (by kernel_rfl) (by simp) ?_
        refine (AllReadyH.cons rfl (fun K hK => ?_) AllReadyH.nil)
        have cx := HN.out.cells.2.2.1
        have fx := HN.out.froz 2
        go_simp
        clear cx fx
        refine hK.out _ _ ?_ (fun hHeld => ?_)
        · (try dsimp only)
          try trivial
        clear hK K
        (try simp only [Act.put, List.setIfInBounds_toArray, List.set_cons_zero, List.set_cons_succ])
        have HN := Lib.hid (HN.out.put 2 (.slice Al ((lsM ys).length + 1) cl) (bP' := .slice none 0 0) (bL' := (.slice Al ((lsM ys).length + 1) cl)) (bK' := (.slice Ak ((ksM ys).length + 1) ck)) rfl)
        generalize W.setCell ⟨w.heap.size + 1, 2, none⟩ (.slice Al ((lsM ys).length + 1) cl) = V at HN hHeld ⊢
        rename World => W
        refine wpAnyH_done (by kernel_rfl) ?_ _
        refine NoPanic.normal ?_
        focus
          go_wp2_with fail
          go_roundw
          case rel =>
            refine ⟨k + 1, (.slice Al ((lsM ys).length + 1) cl), (.slice Ak ((ksM ys).length + 1) ck), by omega, by go_num, ?_, ?_⟩
            · rw [HTK.out, List.any_append, HYE.out]; rfl
            · rw [HTK.out, lsM_snoc, ksM_snoc]
              exact HN.out
          case measure => simp [intOf]; omega
        go_simp
        refine hK.out _ _ ?_ (fun hHeld => ?_)
        · (try dsimp only)
          try trivial
        clear hK K
        (try simp only [Act.put, List.setIfInBounds_toArray, List.set_cons_zero, List.set_cons_succ])
        obtain ⟨V, hV⟩ : ∃ V : World, V = W.alloc (.cells #[.string (bs r)] 9) := ⟨_, rfl⟩
        rw [← hV]
        have hbW : Below W.heap.size W V := by rw [hV]; exact (Below.refl _ _).alloc (Nat.le_refl _) _
        have HFL : Hid (V.heap[W.heap.size]? = some (.cells #[.string (bs r)] 9 (0, 0))) := by rw [hV]; exact heap_alloc_new _ _
        have HFI := Lib.hid ((hbW.block _ (Array.getElem?_eq_some_iff.1 HFI.out).1).trans HFI.out)
        have HN := Lib.hid (HN.out.old hbW)
        clear hV hbW
        generalize W.heap.size = gpos at HFL
        rename World => W
        refine wpAnyH_ready (rs := [6, 8]) (by kernel_rfl) (by simp) ?_
        refine (AllReadyH.cons (o := ⟨some 59, _, _, _, _, _⟩) rfl (fun K hK => ?_) (AllReadyH.cons (o := ⟨some 61, _, _, _, _, _⟩) rfl (fun K hK => ?_) AllReadyH.nil))
        refine step_push_one elInt rfl _ _ rfl w.heap.size vK (ksM ys).length ((ksM ys).map ivi) rfl HN.out.k _ [ivi (a.toNat : Int)] HFI.out rfl rfl (by simp [Value.oneCell']) (by rw [ksM_len]; have := HYL.out; simp only [maxLen]; omega) (by rw [ksM_len]; have := HYL.out; omega) (Nat.le_of_lt HN.out.rl) ?_
        intro v6 V hp
        obtain ⟨Ak, ck, rfl, _⟩ := own_form hp.1
        refine hK.out _ _ ?_ (fun hHeld => ?_)
        · (try dsimp only)
          try trivial
        clear hK K
        (try simp only [Act.put, List.setIfInBounds_toArray, List.set_cons_zero, List.set_cons_succ])
        have HFL := Lib.hid ((hp.2.block _ (Array.getElem?_eq_some_iff.1 HFL.out).1 (fun e => own_ne_blk' HN.out.k HFL.out (by decide) e.symm)).trans HFL.out)
        have HN := Lib.hid (HN.out.pushK (z := (a.toNat : Int)) hp)
        clear hp
        rename World => W
        refine wpAnyH_ready (rs := [8]) (by kernel_rfl) (by simp) ?_
        refine (AllReadyH.cons (o := ⟨some 61, _, _, _, _, _⟩) rfl (fun K hK => ?_) AllReadyH.nil)
        have cx := HN.out.cells.2.2.1
        go_simp
        clear cx
        refine hK.out _ _ ?_ (fun hHeld => ?_)
        · (try dsimp only)
          try trivial
        clear hK K
        (try simp only [Act.put, List.setIfInBounds_toArray, List.set_cons_zero, List.set_cons_succ])
        refine wpAnyH_take (i := 13) (oi := ⟨some 66, _, _, _, _, _⟩) (v := ?_) rfl (by kernel_rfl) (by kernel_rfl) (by kernel_rfl) (fun _ _ _ h => h) (Or.inl ⟨by simp [Region.wanted, yielded, undef], ?_⟩) (by assumption) ?_
        rotate_left
        · ((intro w hSw; (try dsimp only at hSw); go_simp) <;> with_reducible rfl)
        (try simp only [Act.put, List.setIfInBounds_toArray, List.set_cons_zero, List.set_cons_succ])
        refine wpAnyH_ready (rs := [12]) (by kernel_rfl) (by simp) ?_
        refine (AllReadyH.cons (o := ⟨some 65, _, _, _, _, _⟩) rfl (fun K hK => ?_) AllReadyH.nil)
        refine step_push_one elStr rfl _ _ rfl w.heap.size vL (lsM ys).length ((lsM ys).map Value.string) rfl HN.out.s _ [.string (bs r)] HFL.out rfl rfl (by simp [Value.oneCell']) (by rw [lsM_len]; have := HYL.out; simp only [maxLen]; omega) (by rw [lsM_len]; have := HYL.out; omega) (Nat.le_of_lt HN.out.rl) ?_
        intro v7 V hp
        obtain ⟨Al, cl, rfl, _⟩ := own_form hp.1
        refine hK.out _ _ ?_ (fun hHeld => ?_)
        · (try dsimp only)
          try trivial
        clear hK K
        (try simp only [Act.put, List.setIfInBounds_toArray, List.set_cons_zero, List.set_cons_succ])
        have HN := Lib.hid (HN.out.pushL (x := bs r) hp)
        clear hp
        rename World => W
        refine wpAnyH_ready (rs := [14]) (by kernel_rfl) (by simp) ?_
        refine (AllReadyH.cons rfl (fun K hK => ?_) AllReadyH.nil)
        have cx := HN.out.cells.2.2.2
        have fx := HN.out.froz 3
        go_simp
        clear cx fx
        refine hK.out _ _ ?_ (fun hHeld => ?_)
        · (try dsimp only)
          try trivial
        clear hK K
        (try simp only [Act.put, List.setIfInBounds_toArray, List.set_cons_zero, List.set_cons_succ])
        have HN := Lib.hid (HN.out.put 3 (.slice Ak ((ksM ys).length + 1) ck) (bP' := .slice none 0 0) (bL' := vL) (bK' := (.slice Ak ((ksM ys).length + 1) ck)) rfl)
        generalize W.setCell ⟨w.heap.size + 1, 3, none⟩ (.slice Ak ((ksM ys).length + 1) ck) = V at HN hHeld ⊢
        rename World => W
        refine wpAnyH_take (i := 15) (oi := ⟨some 67, _, _, _, _, _⟩) (v := ?_) rfl (by kernel_rfl) (by kernel_rfl) (by kernel_rfl) (fun _ _ _ h => h) (Or.inl ⟨by simp [Region.wanted, yielded, undef], ?_⟩) (by assumption) ?_
        rotate_left
        · ((intro w hSw; (try dsimp only at hSw); go_simp) <;> with_reducible rfl)
        (try simp only [Act.put, List.setIfInBounds_toArray, List.set_cons_zero, List.set_cons_succ])
        refine wpAnyH_ready (rs := [16]) (by kernel_rfl) (by simp) ?_
        refine (AllReadyH.cons rfl (fun K hK => ?_) AllReadyH.nil)
        have cx := HN.out.cells.2.2.1
        have fx := HN.out.froz 2
        go_simp
        clear cx fx
        refine hK.out _ _ ?_ (fun hHeld => ?_)
        · (try dsimp only)
          try trivial
        clear hK K
        (try simp only [Act.put, List.setIfInBounds_toArray, List.set_cons_zero, List.set_cons_succ])
        have HN := Lib.hid (HN.out.put 2 (.slice Al ((lsM ys).length + 1) cl) (bP' := .slice none 0 0) (bL' := (.slice Al ((lsM ys).length + 1) cl)) (bK' := (.slice Ak ((ksM ys).length + 1) ck)) rfl)
        generalize W.setCell ⟨w.heap.size + 1, 2, none⟩ (.slice Al ((lsM ys).length + 1) cl) = V at HN hHeld ⊢
        rename World => W
        refine wpAnyH_done (by kernel_rfl) ?_ _
        refine NoPanic.normal ?_
        focus
          go_wp2_with fail
          go_roundw
          case rel =>
            refine ⟨k + 1, (.slice Al ((lsM ys).length + 1) cl), (.slice Ak ((ksM ys).length + 1) ck), by omega, by go_num, ?_, ?_⟩
            · rw [HTK.out, List.any_append, HYE.out]; rfl
            · rw [HTK.out, lsM_snoc, ksM_snoc]
              exact HN.out
          case measure => simp [intOf]; omega
        have cx := HN.out.cells.2.2.1
        go_simp
        clear cx
        refine hK.out _ _ ?_ (fun hHeld => ?_)
        · (try dsimp only)
          try trivial
        clear hK K
        (try simp only [Act.put, List.setIfInBounds_toArray, List.set_cons_zero, List.set_cons_succ])
        refine wpAnyH_ready (rs := [6]) (by kernel_rfl) (by simp) ?_
        refine (AllReadyH.cons (o := ⟨some 59, _, _, _, _, _⟩) rfl (fun K hK => ?_) AllReadyH.nil)
        refine step_push_one elInt rfl _ _ rfl w.heap.size vK (ksM ys).length ((ksM ys).map ivi) rfl HN.out.k _ [ivi (a.toNat : Int)] HFI.out rfl rfl (by simp [Value.oneCell']) (by rw [ksM_len]; have := HYL.out; simp only [maxLen]; omega) (by rw [ksM_len]; have := HYL.out; omega) (Nat.le_of_lt HN.out.rl) ?_
        intro v6 V hp
        obtain ⟨Ak, ck, rfl, _⟩ := own_form hp.1
        refine hK.out _ _ ?_ (fun hHeld => ?_)
        · (try dsimp only)
          try trivial
        clear hK K
        (try simp only [Act.put, List.setIfInBounds_toArray, List.set_cons_zero, List.set_cons_succ])
        have HFL := Lib.hid ((hp.2.block _ (Array.getElem?_eq_some_iff.1 HFL.out).1 (fun e => own_ne_blk' HN.out.k HFL.out (by decide) e.symm)).trans HFL.out)
        have HN := Lib.hid (HN.out.pushK (z := (a.toNat : Int)) hp)
        clear hp
        rename World => W
        refine wpAnyH_take (i := 13) (oi := ⟨some 66, _, _, _, _, _⟩) (v := ?_) rfl (by kernel_rfl) (by kernel_rfl) (by kernel_rfl) (fun _ _ _ h => h) (Or.inl ⟨by simp [Region.wanted, yielded, undef], ?_⟩) (by assumption) ?_
        rotate_left
        · ((intro w hSw; (try dsimp only at hSw); go_simp) <;> with_reducible rfl)
        (try simp only [Act.put, List.setIfInBounds_toArray, List.set_cons_zero, List.set_cons_succ])
        refine wpAnyH_ready (rs := [12]) (by kernel_rfl) (by simp) ?_
        refine (AllReadyH.cons (o := ⟨some 65, _, _, _, _, _⟩) rfl (fun K hK => ?_) AllReadyH.nil)
        refine step_push_one elStr rfl _ _ rfl w.heap.size vL (lsM ys).length ((lsM ys).map Value.string) rfl HN.out.s _ [.string (bs r)] HFL.out rfl rfl (by simp [Value.oneCell']) (by rw [lsM_len]; have := HYL.out; simp only [maxLen]; omega) (by rw [lsM_len]; have := HYL.out; omega) (Nat.le_of_lt HN.out.rl) ?_
        intro v7 V hp
        obtain ⟨Al, cl, rfl, _⟩ := own_form hp.1
        refine hK.out _ _ ?_ (fun hHeld => ?_)
        · (try dsimp only)
          try trivial
        clear hK K
        (try simp only [Act.put, List.setIfInBounds_toArray, List.set_cons_zero, List.set_cons_succ])
        have HN := Lib.hid (HN.out.pushL (x := bs r) hp)
        clear hp
        rename World => W
        refine wpAnyH_ready (rs := [14]) (by kernel_rfl) (by simp) ?_
        refine (AllReadyH.cons rfl (fun K hK => ?_) AllReadyH.nil)
        have cx := HN.out.cells.2.2.2
        have fx := HN.out.froz 3
        go_simp
        clear cx fx
        refine hK.out _ _ ?_ (fun hHeld => ?_)
        · (try dsimp only)
          try trivial
        clear hK K
        (try simp only [Act.put, List.setIfInBounds_toArray, List.set_cons_zero, List.set_cons_succ])
        have HN := Lib.hid (HN.out.put 3 (.slice Ak ((ksM ys).length + 1) ck) (bP' := .slice none 0 0) (bL' := vL) (bK' := (.slice Ak ((ksM ys).length + 1) ck)) rfl)
        generalize W.setCell ⟨w.heap.size + 1, 3, none⟩ (.slice Ak ((ksM ys).length + 1) ck) = V at HN hHeld ⊢
        rename World => W
        refine wpAnyH_take (i := 15) (oi := ⟨some 67, _, _, _, _, _⟩) (v := ?_) rfl (by kernel_rfl) (by kernel_rfl) (by kernel_rfl) (fun _ _ _ h => h) (Or.inl ⟨by simp [Region.wanted, yielded, undef], ?_⟩) (by assumption) ?_
        rotate_left
        · ((intro w hSw; (try dsimp only at hSw); go_simp) <;> with_reducible rfl)
        (try simp only [Act.put, List.setIfInBounds_toArray, List.set_cons_zero, List.set_cons_succ])
        refine wpAnyH_ready (rs := [16]) (by kernel_rfl) (by simp) ?_
        refine (AllReadyH.cons rfl (fun K hK => ?_) AllReadyH.nil)
        have cx := HN.out.cells.2.2.1
        have fx := HN.out.froz 2
        go_simp
        clear cx fx
        refine hK.out _ _ ?_ (fun hHeld => ?_)
        · (try dsimp only)
          try trivial
        clear hK K
        (try simp only [Act.put, List.setIfInBounds_toArray, List.set_cons_zero, List.set_cons_succ])
        have HN := Lib.hid (HN.out.put 2 (.slice Al ((lsM ys).length + 1) cl) (bP' := .slice none 0 0) (bL' := (.slice Al ((lsM ys).length + 1) cl)) (bK' := (.slice Ak ((ksM ys).length + 1) ck)) rfl)
        generalize W.setCell ⟨w.heap.size + 1, 2, none⟩ (.slice Al ((lsM ys).length + 1) cl) = V at HN hHeld ⊢
        rename World => W
        refine wpAnyH_done (by kernel_rfl) ?_ _
        refine NoPanic.normal ?_
        focus
          go_wp2_with fail
          go_roundw
          case rel =>
            refine ⟨k + 1, (.slice Al ((lsM ys).length + 1) cl), (.slice Ak ((ksM ys).length + 1) ck), by omega, by go_num, ?_, ?_⟩
            · rw [HTK.out, List.any_append, HYE.out]; rfl
            · rw [HTK.out, lsM_snoc, ksM_snoc]
              exact HN.out
          case measure => simp [intOf]; omega
        have cx := HN.out.cells.2.2.1
        go_simp
        clear cx
        refine hK.out _ _ ?_ (fun hHeld => ?_)
        · (try dsimp only)
          try trivial
        clear hK K
        (try simp only [Act.put, List.setIfInBounds_toArray, List.set_cons_zero, List.set_cons_succ])
        refine wpAnyH_ready (rs := [1, 11]) (by kernel_rfl) (by simp) ?_
        refine (AllReadyH.cons (o := ⟨some 54, _, _, _, _, _⟩) rfl (fun K hK => ?_) (AllReadyH.cons (o := ⟨some 64, _, _, _, _, _⟩) rfl (fun K hK => ?_) AllReadyH.nil))
        have cx := HN.out.cells.2.2.2
        go_simp
        clear cx
        refine hK.out _ _ ?_ (fun hHeld => ?_)
        · (try dsimp only)
          try trivial
        clear hK K
        (try simp only [Act.put, List.setIfInBounds_toArray, List.set_cons_zero, List.set_cons_succ])
        refine wpAnyH_ready (rs := [6, 11]) (by kernel_rfl) (by simp) ?_
        refine (AllReadyH.cons (o := ⟨some 59, _, _, _, _, _⟩) rfl (fun K hK => ?_) (AllReadyH.cons (o := ⟨some 64, _, _, _, _, _⟩) rfl (fun K hK => ?_) AllReadyH.nil))
        refine step_push_one elInt rfl _ _ rfl w.heap.size vK (ksM ys).length ((ksM ys).map ivi) rfl HN.out.k _ [ivi (a.toNat : Int)] HFI.out rfl rfl (by simp [Value.oneCell']) (by rw [ksM_len]; have := HYL.out; simp only [maxLen]; omega) (by rw [ksM_len]; have := HYL.out; omega) (Nat.le_of_lt HN.out.rl) ?_
        intro v6 V hp
        obtain ⟨Ak, ck, rfl, _⟩ := own_form hp.1
        refine hK.out _ _ ?_ (fun hHeld => ?_)
        · (try dsimp only)
          try trivial
        clear hK K
        (try simp only [Act.put, List.setIfInBounds_toArray, List.set_cons_zero, List.set_cons_succ])
        have HN := Lib.hid (HN.out.pushK (z := (a.toNat : Int)) hp)
        clear hp
        rename World => W
        refine wpAnyH_take (i := 13) (oi := ⟨some 66, _, _, _, _, _⟩) (v := ?_) rfl (by kernel_rfl) (by kernel_rfl) (by kernel_rfl) (fun _ _ _ h => h) (Or.inl ⟨by simp [Region.wanted, yielded, undef], ?_⟩) (by assumption) ?_
        rotate_left
        · ((intro w hSw; (try dsimp only at hSw); go_simp) <;> with_reducible rfl)
        (try simp only [Act.put, List.setIfInBounds_toArray, List.set_cons_zero, List.set_cons_succ])
        refine wpAnyH_ready (rs := [11]) (by kernel_rfl) (by simp) ?_
        refine (AllReadyH.cons (o := ⟨some 64, _, _, _, _, _⟩) rfl (fun K hK => ?_) AllReadyH.nil)
        go_simp
        refine hK.out _ _ ?_ (fun hHeld => ?_)
        · (try dsimp only)
          try trivial
        clear hK K
        (try simp only [Act.put, List.setIfInBounds_toArray, List.set_cons_zero, List.set_cons_succ])
        obtain ⟨V, hV⟩ : ∃ V : World, V = W.alloc (.cells #[.string (bs r)] 9) := ⟨_, rfl⟩
        rw [← hV]
        have hbW : Below W.heap.size W V := by rw [hV]; exact (Below.refl _ _).alloc (Nat.le_refl _) _
        have HFL : Hid (V.heap[W.heap.size]? = some (.cells #[.string (bs r)] 9 (0, 0))) := by rw [hV]; exact heap_alloc_new _ _
        have HN := Lib.hid (HN.out.old hbW)
        clear hV hbW
        generalize W.heap.size = gpos at HFL
        rename World => W
        refine wpAnyH_ready (rs := [12]) (by kernel_rfl) (by simp) ?_
        refine (AllReadyH.cons (o := ⟨some 65, _, _, _, _, _⟩) rfl (fun K hK => ?_) AllReadyH.nil)
        refine step_push_one elStr rfl _ _ rfl w.heap.size vL (lsM ys).length ((lsM ys).map Value.string) rfl HN.out.s _ [.string (bs r)] HFL.out rfl rfl (by simp [Value.oneCell']) (by rw [lsM_len]; have := HYL.out; simp only [maxLen]; omega) (by rw [lsM_len]; have := HYL.out; omega) (Nat.le_of_lt HN.out.rl) ?_
        intro v7 V hp
        obtain ⟨Al, cl, rfl, _⟩ := own_form hp.1
        refine hK.out _ _ ?_ (fun hHeld => ?_)
        · (try dsimp only)
          try trivial
        clear hK K
        (try simp only [Act.put, List.setIfInBounds_toArray, List.set_cons_zero, List.set_cons_succ])
        have HN := Lib.hid (HN.out.pushL (x := bs r) hp)
        clear hp
        rename World => W
        refine wpAnyH_ready (rs := [14]) (by kernel_rfl) (by simp) ?_
        refine (AllReadyH.cons rfl (fun K hK => ?_) AllReadyH.nil)
        have cx := HN.out.cells.2.2.2
        have fx := HN.out.froz 3
        go_simp
        clear cx fx
        refine hK.out _ _ ?_ (fun hHeld => ?_)
        · (try dsimp only)
          try trivial
        clear hK K
        (try simp only [Act.put, List.setIfInBounds_toArray, List.set_cons_zero, List.set_cons_succ])
        have HN := Lib.hid (HN.out.put 3 (.slice Ak ((ksM ys).length + 1) ck) (bP' := .slice none 0 0) (bL' := vL) (bK' := (.slice Ak ((ksM ys).length + 1) ck)) rfl)
        generalize W.setCell ⟨w.heap.size + 1, 3, none⟩ (.slice Ak ((ksM ys).length + 1) ck) = V at HN hHeld ⊢
        rename World => W
        refine wpAnyH_take (i := 15) (oi := ⟨some 67, _, _, _, _, _⟩) (v := ?_) rfl (by kernel_rfl) (by kernel_rfl) (by kernel_rfl) (fun _ _ _ h => h) (Or.inl ⟨by simp [Region.wanted, yielded, undef], ?_⟩) (by assumption) ?_
        rotate_left
        · ((intro w hSw; (try dsimp only at hSw); go_simp) <;> with_reducible rfl)
        (try simp only [Act.put, List.setIfInBounds_toArray, List.set_cons_zero, List.set_cons_succ])
        refine wpAnyH_ready (rs := [16]) (by kernel_rfl) (by simp) ?_
        refine (AllReadyH.cons rfl (fun K hK => ?_) AllReadyH.nil)
        have cx := HN.out.cells.2.2.1
        have fx := HN.out.froz 2
        go_simp
        clear cx fx
        refine hK.out _ _ ?_ (fun hHeld => ?_)
        · (try dsimp only)
          try trivial
        clear hK K
        (try simp only [Act.put, List.setIfInBounds_toArray, List.set_cons_zero, List.set_cons_succ])
        have HN := Lib.hid (HN.out.put 2 (.slice Al ((lsM ys).length + 1) cl) (bP' := .slice none 0 0) (bL' := (.slice Al ((lsM ys).length + 1) cl)) (bK' := (.slice Ak ((ksM ys).length + 1) ck)) rfl)
        generalize W.setCell ⟨w.heap.size + 1, 2, none⟩ (.slice Al ((lsM ys).length + 1) cl) = V at HN hHeld ⊢
        rename World => W
        refine wpAnyH_done (by kernel_rfl) ?_ _
        refine NoPanic.normal ?_
        focus
          go_wp2_with fail
          go_roundw
          case rel =>
            refine ⟨k + 1, (.slice Al ((lsM ys).length + 1) cl), (.slice Ak ((ksM ys).length + 1) ck), by omega, by go_num, ?_, ?_⟩
            · rw [HTK.out, List.any_append, HYE.out]; rfl
            · rw [HTK.out, lsM_snoc, ksM_snoc]
              exact HN.out
          case measure => simp [intOf]; omega
        go_simp
        refine hK.out _ _ ?_ (fun hHeld => ?_)
        · (try dsimp only)
          try trivial
        clear hK K
        (try simp only [Act.put, List.setIfInBounds_toArray, List.set_cons_zero, List.set_cons_succ])
        obtain ⟨V, hV⟩ : ∃ V : World, V = W.alloc (.cells #[.string (bs r)] 9) := ⟨_, rfl⟩
        rw [← hV]
        have hbW : Below W.heap.size W V := by rw [hV]; exact (Below.refl _ _).alloc (Nat.le_refl _) _
        have HFL : Hid (V.heap[W.heap.size]? = some (.cells #[.string (bs r)] 9 (0, 0))) := by rw [hV]; exact heap_alloc_new _ _
        have HFI := Lib.hid ((hbW.block _ (Array.getElem?_eq_some_iff.1 HFI.out).1).trans HFI.out)
        have HN := Lib.hid (HN.out.old hbW)
        clear hV hbW
        generalize W.heap.size = gpos at HFL
        rename World => W
        refine wpAnyH_ready (rs := [6]) (by kernel_rfl) (by simp) ?_
        refine (AllReadyH.cons (o := ⟨some 59, _, _, _, _, _⟩) rfl (fun K hK => ?_) AllReadyH.nil)
        refine step_push_one elInt rfl _ _ rfl w.heap.size vK (ksM ys).length ((ksM ys).map ivi) rfl HN.out.k _ [ivi (a.toNat : Int)] HFI.out rfl rfl (by simp [Value.oneCell']) (by rw [ksM_len]; have := HYL.out; simp only [maxLen]; omega) (by rw [ksM_len]; have := HYL.out; omega) (Nat.le_of_lt HN.out.rl) ?_
        intro v6 V hp
        obtain ⟨Ak, ck, rfl, _⟩ := own_form hp.1
        refine hK.out _ _ ?_ (fun hHeld => ?_)
        · (try dsimp only)
          try trivial
        clear hK K
        (try simp only [Act.put, List.setIfInBounds_toArray, List.set_cons_zero, List.set_cons_succ])
        have HFL := Lib.hid ((hp.2.block _ (Array.getElem?_eq_some_iff.1 HFL.out).1 (fun e => own_ne_blk' HN.out.k HFL.out (by decide) e.symm)).trans HFL.out)
        have HN := Lib.hid (HN.out.pushK (z := (a.toNat : Int)) hp)
        clear hp
        rename World => W
        refine wpAnyH_take (i := 13) (oi := ⟨some 66, _, _, _, _, _⟩) (v := ?_) rfl (by kernel_rfl) (by kernel_rfl) (by kernel_rfl) (fun _ _ _ h => h) (Or.inl ⟨by simp [Region.wanted, yielded, undef], ?_⟩) (by assumption) ?_
        rotate_left
        · ((intro w hSw; (try dsimp only at hSw); go_simp) <;> with_reducible rfl)
        (try simp only [Act.put, List.setIfInBounds_toArray, List.set_cons_zero, List.set_cons_succ])
        refine wpAnyH_ready (rs := [12]) (by kernel_rfl) (by simp) ?_
        refine (AllReadyH.cons (o := ⟨some 65, _, _, _, _, _⟩) rfl (fun K hK => ?_) AllReadyH.nil)
        refine step_push_one elStr rfl _ _ rfl w.heap.size vL (lsM ys).length ((lsM ys).map Value.string) rfl HN.out.s _ [.string (bs r)] HFL.out rfl rfl (by simp [Value.oneCell']) (by rw [lsM_len]; have := HYL.out; simp only [maxLen]; omega) (by rw [lsM_len]; have := HYL.out; omega) (Nat.le_of_lt HN.out.rl) ?_
        intro v7 V hp
        obtain ⟨Al, cl, rfl, _⟩ := own_form hp.1
        refine hK.out _ _ ?_ (fun hHeld => ?_)
        · (try dsimp only)
          try trivial
        clear hK K
        (try simp only [Act.put, List.setIfInBounds_toArray, List.set_cons_zero, List.set_cons_succ])
        have HN := Lib.hid (HN.out.pushL (x := bs r) hp)
        clear hp
        rename World => W
        refine wpAnyH_ready (rs := [14]) (by kernel_rfl) (by simp) ?_
        refine (AllReadyH.cons rfl (fun K hK => ?_) AllReadyH.nil)
        have cx := HN.out.cells.2.2.2
        have fx := HN.out.froz 3
        go_simp
        clear cx fx
        refine hK.out _ _ ?_ (fun hHeld => ?_)
        · (try dsimp only)
          try trivial
        clear hK K
        (try simp only [Act.put, List.setIfInBounds_toArray, List.set_cons_zero, List.set_cons_succ])
        have HN := Lib.hid (HN.out.put 3 (.slice Ak ((ksM ys).length + 1) ck) (bP' := .slice none 0 0) (bL' := vL) (bK' := (.slice Ak ((ksM ys).length + 1) ck)) rfl)
        generalize W.setCell ⟨w.heap.size + 1, 3, none⟩ (.slice Ak ((ksM ys).length + 1) ck) = V at HN hHeld ⊢
        rename World => W
        refine wpAnyH_take (i := 15) (oi := ⟨some 67, _, _, _, _, _⟩) (v := ?_) rfl (by kernel_rfl) (by kernel_rfl) (by kernel_rfl) (fun _ _ _ h => h) (Or.inl ⟨by simp [Region.wanted, yielded, undef], ?_⟩) (by assumption) ?_
        rotate_left
        · ((intro w hSw; (try dsimp only at hSw); go_simp) <;> with_reducible rfl)
        (try simp only [Act.put, List.setIfInBounds_toArray, List.set_cons_zero, List.set_cons_succ])
        refine wpAnyH_ready (rs := [16]) (by kernel_rfl) (by simp) ?_
        refine (AllReadyH.cons rfl (fun K hK => ?_) AllReadyH.nil)
        have cx := HN.out.cells.2.2.1
        have fx := HN.out.froz 2
        go_simp
        clear cx fx
        refine hK.out _ _ ?_ (fun hHeld => ?_)
        · (try dsimp only)
          try trivial
        clear hK K
        (try simp only [Act.put, List.setIfInBounds_toArray, List.set_cons_zero, List.set_cons_succ])
        have HN := Lib.hid (HN.out.put 2 (.slice Al ((lsM ys).length + 1) cl) (bP' := .slice none 0 0) (bL' := (.slice Al ((lsM ys).length + 1) cl)) (bK' := (.slice Ak ((ksM ys).length + 1) ck)) rfl)
        generalize W.setCell ⟨w.heap.size + 1, 2, none⟩ (.slice Al ((lsM ys).length + 1) cl) = V at HN hHeld ⊢
        rename World => W
        refine wpAnyH_done (by kernel_rfl) ?_ _
        refine NoPanic.normal ?_
        focus
          go_wp2_with fail
          go_roundw
          case rel =>
            refine ⟨k + 1, (.slice Al ((lsM ys).length + 1) cl), (.slice Ak ((ksM ys).length + 1) ck), by omega, by go_num, ?_, ?_⟩
            · rw [HTK.out, List.any_append, HYE.out]; rfl
            · rw [HTK.out, lsM_snoc, ksM_snoc]
              exact HN.out
          case measure => simp [intOf]; omega
        go_simp
        refine hK.out _ _ ?_ (fun hHeld => ?_)
        · (try dsimp only)
          try trivial
        clear hK K
        (try simp only [Act.put, List.setIfInBounds_toArray, List.set_cons_zero, List.set_cons_succ])
        obtain ⟨V, hV⟩ : ∃ V : World, V = W.alloc (.cells #[.string (bs r)] 9) := ⟨_, rfl⟩
        rw [← hV]
        have hbW : Below W.heap.size W V := by rw [hV]; exact (Below.refl _ _).alloc (Nat.le_refl _) _
        have HFL : Hid (V.heap[W.heap.size]? = some (.cells #[.string (bs r)] 9 (0, 0))) := by rw [hV]; exact heap_alloc_new _ _
        have HFI := Lib.hid ((hbW.block _ (Array.getElem?_eq_some_iff.1 HFI.out).1).trans HFI.out)
        have HN := Lib.hid (HN.out.old hbW)
        clear hV hbW
        generalize W.heap.size = gpos at HFL
        rename World => W
        refine wpAnyH_ready (rs := [1]) (by kernel_rfl) (by simp) ?_
        refine (AllReadyH.cons (o := ⟨some 54, _, _, _, _, _⟩) rfl (fun K hK => ?_) AllReadyH.nil)
        have cx := HN.out.cells.2.2.2
        go_simp
        clear cx
        refine hK.out _ _ ?_ (fun hHeld => ?_)
        · (try dsimp only)
          try trivial
        clear hK K
        (try simp only [Act.put, List.setIfInBounds_toArray, List.set_cons_zero, List.set_cons_succ])
        refine wpAnyH_ready (rs := [6]) (by kernel_rfl) (by simp) ?_
        refine (AllReadyH.cons (o := ⟨some 59, _, _, _, _, _⟩) rfl (fun K hK => ?_) AllReadyH.nil)
        refine step_push_one elInt rfl _ _ rfl w.heap.size vK (ksM ys).length ((ksM ys).map ivi) rfl HN.out.k _ [ivi (a.toNat : Int)] HFI.out rfl rfl (by simp [Value.oneCell']) (by rw [ksM_len]; have := HYL.out; simp only [maxLen]; omega) (by rw [ksM_len]; have := HYL.out; omega) (Nat.le_of_lt HN.out.rl) ?_
        intro v6 V hp
        obtain ⟨Ak, ck, rfl, _⟩ := own_form hp.1
        refine hK.out _ _ ?_ (fun hHeld => ?_)
        · (try dsimp only)
          try trivial
        clear hK K
        (try simp only [Act.put, List.setIfInBounds_toArray, List.set_cons_zero, List.set_cons_succ])
        have HFL := Lib.hid ((hp.2.block _ (Array.getElem?_eq_some_iff.1 HFL.out).1 (fun e => own_ne_blk' HN.out.k HFL.out (by decide) e.symm)).trans HFL.out)
        have HN := Lib.hid (HN.out.pushK (z := (a.toNat : Int)) hp)
        clear hp
        rename World => W
        refine wpAnyH_take (i := 13) (oi := ⟨some 66, _, _, _, _, _⟩) (v := ?_) rfl (by kernel_rfl) (by kernel_rfl) (by kernel_rfl) (fun _ _ _ h => h) (Or.inl ⟨by simp [Region.wanted, yielded, undef], ?_⟩) (by assumption) ?_
        rotate_left
        · ((intro w hSw; (try dsimp only at hSw); go_simp) <;> with_reducible rfl)
        (try simp only [Act.put, List.setIfInBounds_toArray, List.set_cons_zero, List.set_cons_succ])
        refine wpAnyH_ready (rs := [12]) (by kernel_rfl) (by simp) ?_
        refine (AllReadyH.cons (o := ⟨some 65, _, _, _, _, _⟩) rfl (fun K hK => ?_) AllReadyH.nil)
        refine step_push_one elStr rfl _ _ rfl w.heap.size vL (lsM ys).length ((lsM ys).map Value.string) rfl HN.out.s _ [.string (bs r)] HFL.out rfl rfl (by simp [Value.oneCell']) (by rw [lsM_len]; have := HYL.out; simp only [maxLen]; omega) (by rw [lsM_len]; have := HYL.out; omega) (Nat.le_of_lt HN.out.rl) ?_
        intro v7 V hp
        obtain ⟨Al, cl, rfl, _⟩ := own_form hp.1
        refine hK.out _ _ ?_ (fun hHeld => ?_)
        · (try dsimp only)
          try trivial
        clear hK K
        (try simp only [Act.put, List.setIfInBounds_toArray, List.set_cons_zero, List.set_cons_succ])
        have HN := Lib.hid (HN.out.pushL (x := bs r) hp)
        clear hp
        rename World => W
        refine wpAnyH_ready (rs := [14]) (by kernel_rfl) (by simp) ?_
        refine (AllReadyH.cons rfl (fun K hK => ?_) AllReadyH.nil)
        have cx := HN.out.cells.2.2.2
        have fx := HN.out.froz 3
        go_simp
        clear cx fx
        refine hK.out _ _ ?_ (fun hHeld => ?_)
        · (try dsimp only)
          try trivial
        clear hK K
        (try simp only [Act.put, List.setIfInBounds_toArray, List.set_cons_zero, List.set_cons_succ])
        have HN := Lib.hid (HN.out.put 3 (.slice Ak ((ksM ys).length + 1) ck) (bP' := .slice none 0 0) (bL' := vL) (bK' := (.slice Ak ((ksM ys).length + 1) ck)) rfl)
        generalize W.setCell ⟨w.heap.size + 1, 3, none⟩ (.slice Ak ((ksM ys).length + 1) ck) = V at HN hHeld ⊢
        rename World => W
        refine wpAnyH_take (i := 15) (oi := ⟨some 67, _, _, _, _, _⟩) (v := ?_) rfl (by kernel_rfl) (by kernel_rfl) (by kernel_rfl) (fun _ _ _ h => h) (Or.inl ⟨by simp [Region.wanted, yielded, undef], ?_⟩) (by assumption) ?_
        rotate_left
        · ((intro w hSw; (try dsimp only at hSw); go_simp) <;> with_reducible rfl)
        (try simp only [Act.put, List.setIfInBounds_toArray, List.set_cons_zero, List.set_cons_succ])
        refine wpAnyH_ready (rs := [16]) (by kernel_rfl) (by simp) ?_
        refine (AllReadyH.cons rfl (fun K hK => ?_) AllReadyH.nil)
        have cx := HN.out.cells.2.2.1
        have fx := HN.out.froz 2
        go_simp
        clear cx fx
        refine hK.out _ _ ?_ (fun hHeld => ?_)
        · (try dsimp only)
          try trivial
        clear hK K
        (try simp only [Act.put, List.setIfInBounds_toArray, List.set_cons_zero, List.set_cons_succ])
        have HN := Lib.hid (HN.out.put 2 (.slice Al ((lsM ys).length + 1) cl) (bP' := .slice none 0 0) (bL' := (.slice Al ((lsM ys).length + 1) cl)) (bK' := (.slice Ak ((ksM ys).length + 1) ck)) rfl)
        generalize W.setCell ⟨w.heap.size + 1, 2, none⟩ (.slice Al ((lsM ys).length + 1) cl) = V at HN hHeld ⊢
        rename World => W
        refine wpAnyH_done (by kernel_rfl) ?_ _
        refine NoPanic.normal ?_
        focus
          go_wp2_with fail
          go_roundw
          case rel =>
            refine ⟨k + 1, (.slice Al ((lsM ys).length + 1) cl), (.slice Ak ((ksM ys).length + 1) ck), by omega, by go_num, ?_, ?_⟩
            · rw [HTK.out, List.any_append, HYE.out]; rfl
            · rw [HTK.out, lsM_snoc, ksM_snoc]
              exact HN.out
          case measure => simp [intOf]; omega
        go_simp
        refine hK.out _ _ ?_ (fun hHeld => ?_)
        · (try dsimp only)
          try trivial
        clear hK K
        (try simp only [Act.put, List.setIfInBounds_toArray, List.set_cons_zero, List.set_cons_succ])
        obtain ⟨V, hV⟩ : ∃ V : World, V = W.alloc (.cells #[.string (bs r)] 9) := ⟨_, rfl⟩
        rw [← hV]
        have hbW : Below W.heap.size W V := by rw [hV]; exact (Below.refl _ _).alloc (Nat.le_refl _) _
        have HFL : Hid (V.heap[W.heap.size]? = some (.cells #[.string (bs r)] 9 (0, 0))) := by rw [hV]; exact heap_alloc_new _ _
        have HFI := Lib.hid ((hbW.block _ (Array.getElem?_eq_some_iff.1 HFI.out).1).trans HFI.out)
        have HN := Lib.hid (HN.out.old hbW)
        clear hV hbW
        generalize W.heap.size = gpos at HFL
        rename World => W
        refine wpAnyH_ready (rs := [1, 8]) (by kernel_rfl) (by simp) ?_
        refine (AllReadyH.cons (o := ⟨some 54, _, _, _, _, _⟩) rfl (fun K hK => ?_) (AllReadyH.cons (o := ⟨some 61, _, _, _, _, _⟩) rfl (fun K hK => ?_) AllReadyH.nil))
        have cx := HN.out.cells.2.2.2
        go_simp
        clear cx
        refine hK.out _ _ ?_ (fun hHeld => ?_)
        · (try dsimp only)
          try trivial
        clear hK K
        (try simp only [Act.put, List.setIfInBounds_toArray, List.set_cons_zero, List.set_cons_succ])
        refine wpAnyH_ready (rs := [6, 8]) (by kernel_rfl) (by simp) ?_
        refine (AllReadyH.cons (o := ⟨some 59, _, _, _, _, _⟩) rfl (fun K hK => ?_) (AllReadyH.cons (o := ⟨some 61, _, _, _, _, _⟩) rfl (fun K hK => ?_) AllReadyH.nil))
        refine step_push_one elInt rfl _ _ rfl w.heap.size vK (ksM ys).length ((ksM ys).map ivi) rfl HN.out.k _ [ivi (a.toNat : Int)] HFI.out rfl rfl (by simp [Value.oneCell']) (by rw [ksM_len]; have := HYL.out; simp only [maxLen]; omega) (by rw [ksM_len]; have := HYL.out; omega) (Nat.le_of_lt HN.out.rl) ?_
        intro v6 V hp
        obtain ⟨Ak, ck, rfl, _⟩ := own_form hp.1
        refine hK.out _ _ ?_ (fun hHeld => ?_)
        · (try dsimp only)
          try trivial
        clear hK K
        (try simp only [Act.put, List.setIfInBounds_toArray, List.set_cons_zero, List.set_cons_succ])
        have HFL := Lib.hid ((hp.2.block _ (Array.getElem?_eq_some_iff.1 HFL.out).1 (fun e => own_ne_blk' HN.out.k HFL.out (by decide) e.symm)).trans HFL.out)
        have HN := Lib.hid (HN.out.pushK (z := (a.toNat : Int)) hp)
        clear hp
        rename World => W
        refine wpAnyH_ready (rs := [8]) (by kernel_rfl) (by simp) ?_
        refine (AllReadyH.cons (o := ⟨some 61, _, _, _, _, _⟩) rfl (fun K hK => ?_) AllReadyH.nil)
        have cx := HN.out.cells.2.2.1
        go_simp
        clear cx
        refine hK.out _ _ ?_ (fun hHeld => ?_)
        · (try dsimp only)
          try trivial
        clear hK K
        (try simp only [Act.put, List.setIfInBounds_toArray, List.set_cons_zero, List.set_cons_succ])
        refine wpAnyH_take (i := 13) (oi := ⟨some 66, _, _, _, _, _⟩) (v := ?_) rfl (by kernel_rfl) (by kernel_rfl) (by kernel_rfl) (fun _ _ _ h => h) (Or.inl ⟨by simp [Region.wanted, yielded, undef], ?_⟩) (by assumption) ?_
        rotate_left
        · ((intro w hSw; (try dsimp only at hSw); go_simp) <;> with_reducible rfl)
        (try simp only [Act.put, List.setIfInBounds_toArray, List.set_cons_zero, List.set_cons_succ])
        refine wpAnyH_ready (rs := [12]) (by kernel_rfl) (by simp) ?_
        refine (AllReadyH.cons (o := ⟨some 65, _, _, _, _, _⟩) rfl (fun K hK => ?_) AllReadyH.nil)
        refine step_push_one elStr rfl _ _ rfl w.heap.size vL (lsM ys).length ((lsM ys).map Value.string) rfl HN.out.s _ [.string (bs r)] HFL.out rfl rfl (by simp [Value.oneCell']) (by rw [lsM_len]; have := HYL.out; simp only [maxLen]; omega) (by rw [lsM_len]; have := HYL.out; omega) (Nat.le_of_lt HN.out.rl) ?_
        intro v7 V hp
        obtain ⟨Al, cl, rfl, _⟩ := own_form hp.1
        refine hK.out _ _ ?_ (fun hHeld => ?_)
        · (try dsimp only)
          try trivial
        clear hK K
        (try simp only [Act.put, List.setIfInBounds_toArray, List.set_cons_zero, List.set_cons_succ])
        have HN := Lib.hid (HN.out.pushL (x := bs r) hp)
        clear hp
        rename World => W
        refine wpAnyH_ready (rs := [14]) (by kernel_rfl) (by simp) ?_
        refine (AllReadyH.cons rfl (fun K hK => ?_) AllReadyH.nil)
        have cx := HN.out.cells.2.2.2
        have fx := HN.out.froz 3
        go_simp
        clear cx fx
        refine hK.out _ _ ?_ (fun hHeld => ?_)
        · (try dsimp only)
          try trivial
        clear hK K
        (try simp only [Act.put, List.setIfInBounds_toArray, List.set_cons_zero, List.set_cons_succ])
        have HN := Lib.hid (HN.out.put 3 (.slice Ak ((ksM ys).length + 1) ck) (bP' := .slice none 0 0) (bL' := vL) (bK' := (.slice Ak ((ksM ys).length + 1) ck)) rfl)
        generalize W.setCell ⟨w.heap.size + 1, 3, none⟩ (.slice Ak ((ksM ys).length + 1) ck) = V at HN hHeld ⊢
        rename World => W
        refine wpAnyH_take (i := 15) (oi := ⟨some 67, _, _, _, _, _⟩) (v := ?_) rfl (by kernel_rfl) (by kernel_rfl) (by kernel_rfl) (fun _ _ _ h => h) (Or.inl ⟨by simp [Region.wanted, yielded, undef], ?_⟩) (by assumption) ?_
        rotate_left
        · ((intro w hSw; (try dsimp only at hSw); go_simp) <;> with_reducible rfl)
        (try simp only [Act.put, List.setIfInBounds_toArray, List.set_cons_zero, List.set_cons_succ])
        refine wpAnyH_ready (rs := [16]) (by kernel_rfl) (by simp) ?_
        refine (AllReadyH.cons rfl (fun K hK => ?_) AllReadyH.nil)
        have cx := HN.out.cells.2.2.1
        have fx := HN.out.froz 2
        go_simp
        clear cx fx
        refine hK.out _ _ ?_ (fun hHeld => ?_)
        · (try dsimp only)
          try trivial
        clear hK K
        (try simp only [Act.put, List.setIfInBounds_toArray, List.set_cons_zero, List.set_cons_succ])
        have HN := Lib.hid (HN.out.put 2 (.slice Al ((lsM ys).length + 1) cl) (bP' := .slice none 0 0) (bL' := (.slice Al ((lsM ys).length + 1) cl)) (bK' := (.slice Ak ((ksM ys).length + 1) ck)) rfl)
        generalize W.setCell ⟨w.heap.size + 1, 2, none⟩ (.slice Al ((lsM ys).length + 1) cl) = V at HN hHeld ⊢
        rename World => W
        refine wpAnyH_done (by kernel_rfl) ?_ _
        refine NoPanic.normal ?_
        focus
          go_wp2_with fail
          go_roundw
          case rel =>
            refine ⟨k + 1, (.slice Al ((lsM ys).length + 1) cl), (.slice Ak ((ksM ys).length + 1) ck), by omega, by go_num, ?_, ?_⟩
            · rw [HTK.out, List.any_append, HYE.out]; rfl
            · rw [HTK.out, lsM_snoc, ksM_snoc]
              exact HN.out
          case measure => simp [intOf]; omega
        have cx := HN.out.cells.2.2.1
        go_simp
        clear cx
        refine hK.out _ _ ?_ (fun hHeld => ?_)
        · (try dsimp only)
          try trivial
        clear hK K
        (try simp only [Act.put, List.setIfInBounds_toArray, List.set_cons_zero, List.set_cons_succ])
        refine wpAnyH_ready (rs := [6]) (by kernel_rfl) (by simp) ?_
        refine (AllReadyH.cons (o := ⟨some 59, _, _, _, _, _⟩) rfl (fun K hK => ?_) AllReadyH.nil)
        refine step_push_one elInt rfl _ _ rfl w.heap.size vK (ksM ys).length ((ksM ys).map ivi) rfl HN.out.k _ [ivi (a.toNat : Int)] HFI.out rfl rfl (by simp [Value.oneCell']) (by rw [ksM_len]; have := HYL.out; simp only [maxLen]; omega) (by rw [ksM_len]; have := HYL.out; omega) (Nat.le_of_lt HN.out.rl) ?_
        intro v6 V hp
        obtain ⟨Ak, ck, rfl, _⟩ := own_form hp.1
        refine hK.out _ _ ?_ (fun hHeld => ?_)
        · (try dsimp only)
          try trivial
        clear hK K
        (try simp only [Act.put, List.setIfInBounds_toArray, List.set_cons_zero, List.set_cons_succ])
        have HFL := Lib.hid ((hp.2.block _ (Array.getElem?_eq_some_iff.1 HFL.out).1 (fun e => own_ne_blk' HN.out.k HFL.out (by decide) e.symm)).trans HFL.out)
        have HN := Lib.hid (HN.out.pushK (z := (a.toNat : Int)) hp)
        clear hp
        rename World => W
        refine wpAnyH_take (i := 13) (oi := ⟨some 66, _, _, _, _, _⟩) (v := ?_) rfl (by kernel_rfl) (by kernel_rfl) (by kernel_rfl) (fun _ _ _ h => h) (Or.inl ⟨by simp [Region.wanted, yielded, undef], ?_⟩) (by assumption) ?_
        rotate_left
        · ((intro w hSw; (try dsimp only at hSw); go_simp) <;> with_reducible rfl)
        (try simp only [Act.put, List.setIfInBounds_toArray, List.set_cons_zero, List.set_cons_succ])
        refine wpAnyH_ready (rs := [12]) (by kernel_rfl) (by simp) ?_
        refine (AllReadyH.cons (o := ⟨some 65, _, _, _, _, _⟩) rfl (fun K hK => ?_) AllReadyH.nil)
        refine step_push_one elStr rfl _ _ rfl w.heap.size vL (lsM ys).length ((lsM ys).map Value.string) rfl HN.out.s _ [.string (bs r)] HFL.out rfl rfl (by simp [Value.oneCell']) (by rw [lsM_len]; have := HYL.out; simp only [maxLen]; omega) (by rw [lsM_len]; have := HYL.out; omega) (Nat.le_of_lt HN.out.rl) ?_
        intro v7 V hp
        obtain ⟨Al, cl, rfl, _⟩ := own_form hp.1
        refine hK.out _ _ ?_ (fun hHeld => ?_)
        · (try dsimp only)
          try trivial
        clear hK K
        (try simp only [Act.put, List.setIfInBounds_toArray, List.set_cons_zero, List.set_cons_succ])
        have HN := Lib.hid (HN.out.pushL (x := bs r) hp)
        clear hp
        rename World => W
        refine wpAnyH_ready (rs := [14]) (by kernel_rfl) (by simp) ?_
        refine (AllReadyH.cons rfl (fun K hK => ?_) AllReadyH.nil)
        have cx := HN.out.cells.2.2.2
        have fx := HN.out.froz 3
        go_simp
        clear cx fx
        refine hK.out _ _ ?_ (fun hHeld => ?_)
        · (try dsimp only)
          try trivial
        clear hK K
        (try simp only [Act.put, List.setIfInBounds_toArray, List.set_cons_zero, List.set_cons_succ])
        have HN := Lib.hid (HN.out.put 3 (.slice Ak ((ksM ys).length + 1) ck) (bP' := .slice none 0 0) (bL' := vL) (bK' := (.slice Ak ((ksM ys).length + 1) ck)) rfl)
        generalize W.setCell ⟨w.heap.size + 1, 3, none⟩ (.slice Ak ((ksM ys).length + 1) ck) = V at HN hHeld ⊢
        rename World => W
        refine wpAnyH_take (i := 15) (oi := ⟨some 67, _, _, _, _, _⟩) (v := ?_) rfl (by kernel_rfl) (by kernel_rfl) (by kernel_rfl) (fun _ _ _ h => h) (Or.inl ⟨by simp [Region.wanted, yielded, undef], ?_⟩) (by assumption) ?_
        rotate_left
        · ((intro w hSw; (try dsimp only at hSw); go_simp) <;> with_reducible rfl)
        (try simp only [Act.put, List.setIfInBounds_toArray, List.set_cons_zero, List.set_cons_succ])
        refine wpAnyH_ready (rs := [16]) (by kernel_rfl) (by simp) ?_
        refine (AllReadyH.cons rfl (fun K hK => ?_) AllReadyH.nil)
        have cx := HN.out.cells.2.2.1
        have fx := HN.out.froz 2
        go_simp
        clear cx fx
        refine hK.out _ _ ?_ (fun hHeld => ?_)
        · (try dsimp only)
          try trivial
        clear hK K
        (try simp only [Act.put, List.setIfInBounds_toArray, List.set_cons_zero, List.set_cons_succ])
        have HN := Lib.hid (HN.out.put 2 (.slice Al ((lsM ys).length + 1) cl) (bP' := .slice none 0 0) (bL' := (.slice Al ((lsM ys).length + 1) cl)) (bK' := (.slice Ak ((ksM ys).length + 1) ck)) rfl)
        generalize W.setCell ⟨w.heap.size + 1, 2, none⟩ (.slice Al ((lsM ys).length + 1) cl) = V at HN hHeld ⊢
        rename World => W
        refine wpAnyH_done (by kernel_rfl) ?_ _
        refine NoPanic.normal ?_
        focus
          go_wp2_with fail
          go_roundw
          case rel =>
            refine ⟨k + 1, (.slice Al ((lsM ys).length + 1) cl), (.slice Ak ((ksM ys).length + 1) ck), by omega, by go_num, ?_, ?_⟩
            · rw [HTK.out, List.any_append, HYE.out]; rfl
            · rw [HTK.out, lsM_snoc, ksM_snoc]
              exact HN.out
          case measure => simp [intOf]; omega
        have cx := HN.out.cells.2.2.1
        go_simp
        clear cx
        refine hK.out _ _ ?_ (fun hHeld => ?_)
        · (try dsimp only)
          try trivial
        clear hK K
        (try simp only [Act.put, List.setIfInBounds_toArray, List.set_cons_zero, List.set_cons_succ])
        refine wpAnyH_ready (rs := [1]) (by kernel_rfl) (by simp) ?_
        refine (AllReadyH.cons (o := ⟨some 54, _, _, _, _, _⟩) rfl (fun K hK => ?_) AllReadyH.nil)
        have cx := HN.out.cells.2.2.2
        go_simp
        clear cx
        refine hK.out _ _ ?_ (fun hHeld => ?_)
        · (try dsimp only)
          try trivial
        clear hK K
        (try simp only [Act.put, List.setIfInBounds_toArray, List.set_cons_zero, List.set_cons_succ])
        refine wpAnyH_ready (rs := [6]) (by kernel_rfl) (by simp) ?_
        refine (AllReadyH.cons (o := ⟨some 59, _, _, _, _, _⟩) rfl (fun K hK => ?_) AllReadyH.nil)
        refine step_push_one elInt rfl _ _ rfl w.heap.size vK (ksM ys).length ((ksM ys).map ivi) rfl HN.out.k _ [ivi (a.toNat : Int)] HFI.out rfl rfl (by simp [Value.oneCell']) (by rw [ksM_len]; have := HYL.out; simp only [maxLen]; omega) (by rw [ksM_len]; have := HYL.out; omega) (Nat.le_of_lt HN.out.rl) ?_
        intro v6 V hp
        obtain ⟨Ak, ck, rfl, _⟩ := own_form hp.1
        refine hK.out _ _ ?_ (fun hHeld => ?_)
        · (try dsimp only)
          try trivial
        clear hK K
        (try simp only [Act.put, List.setIfInBounds_toArray, List.set_cons_zero, List.set_cons_succ])
        have HFL := Lib.hid ((hp.2.block _ (Array.getElem?_eq_some_iff.1 HFL.out).1 (fun e => own_ne_blk' HN.out.k HFL.out (by decide) e.symm)).trans HFL.out)
        have HN := Lib.hid (HN.out.pushK (z := (a.toNat : Int)) hp)
        clear hp
        rename World => W
        refine wpAnyH_take (i := 13) (oi := ⟨some 66, _, _, _, _, _⟩) (v := ?_) rfl (by kernel_rfl) (by kernel_rfl) (by kernel_rfl) (fun _ _ _ h => h) (Or.inl ⟨by simp [Region.wanted, yielded, undef], ?_⟩) (by assumption) ?_
        rotate_left
        · ((intro w hSw; (try dsimp only at hSw); go_simp) <;> with_reducible rfl)
        (try simp only [Act.put, List.setIfInBounds_toArray, List.set_cons_zero, List.set_cons_succ])
        refine wpAnyH_ready (rs := [12]) (by kernel_rfl) (by simp) ?_
        refine (AllReadyH.cons (o := ⟨some 65, _, _, _, _, _⟩) rfl (fun K hK => ?_) AllReadyH.nil)
        refine step_push_one elStr rfl _ _ rfl w.heap.size vL (lsM ys).length ((lsM ys).map Value.string) rfl HN.out.s _ [.string (bs r)] HFL.out rfl rfl (by simp [Value.oneCell']) (by rw [lsM_len]; have := HYL.out; simp only [maxLen]; omega) (by rw [lsM_len]; have := HYL.out; omega) (Nat.le_of_lt HN.out.rl) ?_
        intro v7 V hp
        obtain ⟨Al, cl, rfl, _⟩ := own_form hp.1
        refine hK.out _ _ ?_ (fun hHeld => ?_)
        · (try dsimp only)
          try trivial
        clear hK K
        (try simp only [Act.put, List.setIfInBounds_toArray, List.set_cons_zero, List.set_cons_succ])
        have HN := Lib.hid (HN.out.pushL (x := bs r) hp)
        clear hp
        rename World => W
        refine wpAnyH_ready (rs := [14]) (by kernel_rfl) (by simp) ?_
        refine (AllReadyH.cons rfl (fun K hK => ?_) AllReadyH.nil)
        have cx := HN.out.cells.2.2.2
        have fx := HN.out.froz 3
        go_simp
        clear cx fx
        refine hK.out _ _ ?_ (fun hHeld => ?_)
        · (try dsimp only)
          try trivial
        clear hK K
        (try simp only [Act.put, List.setIfInBounds_toArray, List.set_cons_zero, List.set_cons_succ])
        have HN := Lib.hid (HN.out.put 3 (.slice Ak ((ksM ys).length + 1) ck) (bP' := .slice none 0 0) (bL' := vL) (bK' := (.slice Ak ((ksM ys).length + 1) ck)) rfl)
        generalize W.setCell ⟨w.heap.size + 1, 3, none⟩ (.slice Ak ((ksM ys).length + 1) ck) = V at HN hHeld ⊢
        rename World => W
        refine wpAnyH_take (i := 15) (oi := ⟨some 67, _, _, _, _, _⟩) (v := ?_) rfl (by kernel_rfl) (by kernel_rfl) (by kernel_rfl) (fun _ _ _ h => h) (Or.inl ⟨by simp [Region.wanted, yielded, undef], ?_⟩) (by assumption) ?_
        rotate_left
        · ((intro w hSw; (try dsimp only at hSw); go_simp) <;> with_reducible rfl)
        (try simp only [Act.put, List.setIfInBounds_toArray, List.set_cons_zero, List.set_cons_succ])
        refine wpAnyH_ready (rs := [16]) (by kernel_rfl) (by simp) ?_
        refine (AllReadyH.cons rfl (fun K hK => ?_) AllReadyH.nil)
        have cx := HN.out.cells.2.2.1
        have fx := HN.out.froz 2
        go_simp
        clear cx fx
        refine hK.out _ _ ?_ (fun hHeld => ?_)
        · (try dsimp only)
          try trivial
        clear hK K
        (try simp only [Act.put, List.setIfInBounds_toArray, List.set_cons_zero, List.set_cons_succ])
        have HN := Lib.hid (HN.out.put 2 (.slice Al ((lsM ys).length + 1) cl) (bP' := .slice none 0 0) (bL' := (.slice Al ((lsM ys).length + 1) cl)) (bK' := (.slice Ak ((ksM ys).length + 1) ck)) rfl)
        generalize W.setCell ⟨w.heap.size + 1, 2, none⟩ (.slice Al ((lsM ys).length + 1) cl) = V at HN hHeld ⊢
        rename World => W
        refine wpAnyH_done (by kernel_rfl) ?_ _
        refine NoPanic.normal ?_
        focus
          go_wp2_with fail
          go_roundw
          case rel =>
            refine ⟨k + 1, (.slice Al ((lsM ys).length + 1) cl), (.slice Ak ((ksM ys).length + 1) ck), by omega, by go_num, ?_, ?_⟩
            · rw [HTK.out, List.any_append, HYE.out]; rfl
            · rw [HTK.out, lsM_snoc, ksM_snoc]
              exact HN.out
          case measure => simp [intOf]; omega
        have cx := HN.out.cells.2.2.1
        go_simp
        clear cx
        refine hK.out _ _ ?_ (fun hHeld => ?_)
        · (try dsimp only)
          try trivial
        clear hK K
        (try simp only [Act.put, List.setIfInBounds_toArray, List.set_cons_zero, List.set_cons_succ])
        refine wpAnyH_ready (rs := [1, 5, 11]) (by kernel_rfl) (by simp) ?_
        refine (AllReadyH.cons (o := ⟨some 54, _, _, _, _, _⟩) rfl (fun K hK => ?_) (AllReadyH.cons (o := ⟨some 58, _, _, _, _, _⟩) rfl (fun K hK => ?_) (AllReadyH.cons (o := ⟨some 64, _, _, _, _, _⟩) rfl (fun K hK => ?_) AllReadyH.nil)))
        have cx := HN.out.cells.2.2.2
        go_simp
        clear cx
        refine hK.out _ _ ?_ (fun hHeld => ?_)
        · (try dsimp only)
          try trivial
        clear hK K
        (try simp only [Act.put, List.setIfInBounds_toArray, List.set_cons_zero, List.set_cons_succ])
        refine wpAnyH_ready (rs := [5, 11]) (by kernel_rfl) (by simp) ?_
        refine (AllReadyH.cons (o := ⟨some 58, _, _, _, _, _⟩) rfl (fun K hK => ?_) (AllReadyH.cons (o := ⟨some 64, _, _, _, _, _⟩) rfl (fun K hK => ?_) AllReadyH.nil))
        go_simp
        refine hK.out _ _ ?_ (fun hHeld => ?_)
        · (try dsimp only)
          try trivial
        clear hK K
        (try simp only [Act.put, List.setIfInBounds_toArray, List.set_cons_zero, List.set_cons_succ])
        obtain ⟨V, hV⟩ : ∃ V : World, V = W.alloc (.cells #[.int .i64 (a.toNat : Int)] 3) := ⟨_, rfl⟩
        rw [← hV]
        have hbW : Below W.heap.size W V := by rw [hV]; exact (Below.refl _ _).alloc (Nat.le_refl _) _
        have HFI : Hid (V.heap[W.heap.size]? = some (.cells #[.int .i64 (a.toNat : Int)] 3 (0, 0))) := by rw [hV]; exact heap_alloc_new _ _
        have HN := Lib.hid (HN.out.old hbW)
        clear hV hbW
        generalize W.heap.size = gpos at HFI
        rename World => W
        refine wpAnyH_ready (rs := [6, 11]) (by kernel_rfl) (by simp) ?_
        refine (AllReadyH.cons (o := ⟨some 59, _, _, _, _, _⟩) rfl (fun K hK => ?_) (AllReadyH.cons (o := ⟨some 64, _, _, _, _, _⟩) rfl (fun K hK => ?_) AllReadyH.nil))
        refine step_push_one elInt rfl _ _ rfl w.heap.size vK (ksM ys).length ((ksM ys).map ivi) rfl HN.out.k _ [ivi (a.toNat : Int)] HFI.out rfl rfl (by simp [Value.oneCell']) (by rw [ksM_len]; have := HYL.out; simp only [maxLen]; omega) (by rw [ksM_len]; have := HYL.out; omega) (Nat.le_of_lt HN.out.rl) ?_
        intro v6 V hp
        obtain ⟨Ak, ck, rfl, _⟩ := own_form hp.1
        refine hK.out _ _ ?_ (fun hHeld => ?_)
        · (try dsimp only)
          try trivial
        clear hK K
        (try simp only [Act.put, List.setIfInBounds_toArray, List.set_cons_zero, List.set_cons_succ])
        have HN := Lib.hid (HN.out.pushK (z := (a.toNat : Int)) hp)
        clear hp
        rename World => W
        refine wpAnyH_take (i := 13) (oi := ⟨some 66, _, _, _, _, _⟩) (v := ?_) rfl (by kernel_rfl) (by kernel_rfl) (by kernel_rfl) (fun _ _ _ h => h) (Or.inl ⟨by simp [Region.wanted, yielded, undef], ?_⟩) (by assumption) ?_
        rotate_left
        · ((intro w hSw; (try dsimp only at hSw); go_simp) <;> with_reducible rfl)
        (try simp only [Act.put, List.setIfInBounds_toArray, List.set_cons_zero, List.set_cons_succ])
        refine wpAnyH_ready (rs := [11]) (by kernel_rfl) (by simp) ?_
        refine (AllReadyH.cons (o := ⟨some 64, _, _, _, _, _⟩) rfl (fun K hK => ?_) AllReadyH.nil)
        go_simp
        refine hK.out _ _ ?_ (fun hHeld => ?_)
        · (try dsimp only)
          try trivial
        clear hK K
        (try simp only [Act.put, List.setIfInBounds_toArray, List.set_cons_zero, List.set_cons_succ])
        obtain ⟨V, hV⟩ : ∃ V : World, V = W.alloc (.cells #[.string (bs r)] 9) := ⟨_, rfl⟩
        rw [← hV]
        have hbW : Below W.heap.size W V := by rw [hV]; exact (Below.refl _ _).alloc (Nat.le_refl _) _
        have HFL : Hid (V.heap[W.heap.size]? = some (.cells #[.string (bs r)] 9 (0, 0))) := by rw [hV]; exact heap_alloc_new _ _
        have HN := Lib.hid (HN.out.old hbW)
        clear hV hbW
        generalize W.heap.size = gpos at HFL
        rename World => W
        refine wpAnyH_ready (rs := [12]) (by kernel_rfl) (by simp) ?_
        refine (AllReadyH.cons (o := ⟨some 65, _, _, _, _, _⟩) rfl (fun K hK => ?_) AllReadyH.nil)
        refine step_push_one elStr rfl _ _ rfl w.heap.size vL (lsM ys).length ((lsM ys).map Value.string) rfl HN.out.s _ [.string (bs r)] HFL.out rfl rfl (by simp [Value.oneCell']) (by rw [lsM_len]; have := HYL.out; simp only [maxLen]; omega) (by rw [lsM_len]; have := HYL.out; omega) (Nat.le_of_lt HN.out.rl) ?_
        intro v7 V hp
        obtain ⟨Al, cl, rfl, _⟩ := own_form hp.1
        refine hK.out _ _ ?_ (fun hHeld => ?_)
        · (try dsimp only)
          try trivial
        clear hK K
        (try simp only [Act.put, List.setIfInBounds_toArray, List.set_cons_zero, List.set_cons_succ])
        have HN := Lib.hid (HN.out.pushL (x := bs r) hp)
        clear hp
        rename World => W
        refine wpAnyH_ready (rs := [14]) (by kernel_rfl) (by simp) ?_
        refine (AllReadyH.cons rfl (fun K hK => ?_) AllReadyH.nil)
        have cx := HN.out.cells.2.2.2
        have fx := HN.out.froz 3
        go_simp
        clear cx fx
        refine hK.out _ _ ?_ (fun hHeld => ?_)
        · (try dsimp only)
          try trivial
        clear hK K
        (try simp only [Act.put, List.setIfInBounds_toArray, List.set_cons_zero, List.set_cons_succ])
        have HN := Lib.hid (HN.out.put 3 (.slice Ak ((ksM ys).length + 1) ck) (bP' := .slice none 0 0) (bL' := vL) (bK' := (.slice Ak ((ksM ys).length + 1) ck)) rfl)
        generalize W.setCell ⟨w.heap.size + 1, 3, none⟩ (.slice Ak ((ksM ys).length + 1) ck) = V at HN hHeld ⊢
        rename World => W
        refine wpAnyH_take (i := 15) (oi := ⟨some 67, _, _, _, _, _⟩) (v := ?_) rfl (by kernel_rfl) (by kernel_rfl) (by kernel_rfl) (fun _ _ _ h => h) (Or.inl ⟨by simp [Region.wanted, yielded, undef], ?_⟩) (by assumption) ?_
        rotate_left
        · ((intro w hSw; (try dsimp only at hSw); go_simp) <;> with_reducible rfl)
        (try simp only [Act.put, List.setIfInBounds_toArray, List.set_cons_zero, List.set_cons_succ])
        refine wpAnyH_ready (rs := [16]) (by kernel_rfl) (by simp) ?_
        refine (AllReadyH.cons rfl (fun K hK => ?_) AllReadyH.nil)
        have cx := HN.out.cells.2.2.1
        have fx := HN.out.froz 2
        go_simp
        clear cx fx
        refine hK.out _ _ ?_ (fun hHeld => ?_)
        · (try dsimp only)
          try trivial
        clear hK K
        (try simp only [Act.put, List.setIfInBounds_toArray, List.set_cons_zero, List.set_cons_succ])
        have HN := Lib.hid (HN.out.put 2 (.slice Al ((lsM ys).length + 1) cl) (bP' := .slice none 0 0) (bL' := (.slice Al ((lsM ys).length + 1) cl)) (bK' := (.slice Ak ((ksM ys).length + 1) ck)) rfl)
        generalize W.setCell ⟨w.heap.size + 1, 2, none⟩ (.slice Al ((lsM ys).length + 1) cl) = V at HN hHeld ⊢
        rename World => W
        refine wpAnyH_done (by kernel_rfl) ?_ _
        refine NoPanic.normal ?_
        focus
          go_wp2_with fail
          go_roundw
          case rel =>
            refine ⟨k + 1, (.slice Al ((lsM ys).length + 1) cl), (.slice Ak ((ksM ys).length + 1) ck), by omega, by go_num, ?_, ?_⟩
            · rw [HTK.out, List.any_append, HYE.out]; rfl
            · rw [HTK.out, lsM_snoc, ksM_snoc]
              exact HN.out
          case measure => simp [intOf]; omega
        go_simp
        refine hK.out _ _ ?_ (fun hHeld => ?_)
        · (try dsimp only)
          try trivial
        clear hK K
        (try simp only [Act.put, List.setIfInBounds_toArray, List.set_cons_zero, List.set_cons_succ])
        obtain ⟨V, hV⟩ : ∃ V : World, V = W.alloc (.cells #[.string (bs r)] 9) := ⟨_, rfl⟩
        rw [← hV]
        have hbW : Below W.heap.size W V := by rw [hV]; exact (Below.refl _ _).alloc (Nat.le_refl _) _
        have HFL : Hid (V.heap[W.heap.size]? = some (.cells #[.string (bs r)] 9 (0, 0))) := by rw [hV]; exact heap_alloc_new _ _
        have HFI := Lib.hid ((hbW.block _ (Array.getElem?_eq_some_iff.1 HFI.out).1).trans HFI.out)
        have HN := Lib.hid (HN.out.old hbW)
        clear hV hbW
        generalize W.heap.size = gpos at HFL
        rename World => W
        refine wpAnyH_ready (rs := [6]) (by kernel_rfl) (by simp) ?_
        refine (AllReadyH.cons (o := ⟨some 59, _, _, _, _, _⟩) rfl (fun K hK => ?_) AllReadyH.nil)
        refine step_push_one elInt rfl _ _ rfl w.heap.size vK (ksM ys).length ((ksM ys).map ivi) rfl HN.out.k _ [ivi (a.toNat : Int)] HFI.out rfl rfl (by simp [Value.oneCell']) (by rw [ksM_len]; have := HYL.out; simp only [maxLen]; omega) (by rw [ksM_len]; have := HYL.out; omega) (Nat.le_of_lt HN.out.rl) ?_
        intro v6 V hp
        obtain ⟨Ak, ck, rfl, _⟩ := own_form hp.1
        refine hK.out _ _ ?_ (fun hHeld => ?_)
        · (try dsimp only)
          try trivial
        clear hK K
        (try simp only [Act.put, List.setIfInBounds_toArray, List.set_cons_zero, List.set_cons_succ])
        have HFL := Lib.hid ((hp.2.block _ (Array.getElem?_eq_some_iff.1 HFL.out).1 (fun e => own_ne_blk' HN.out.k HFL.out (by decide) e.symm)).trans HFL.out)
        have HN := Lib.hid (HN.out.pushK (z := (a.toNat : Int)) hp)
        clear hp
        rename World => W
        refine wpAnyH_take (i := 13) (oi := ⟨some 66, _, _, _, _, _⟩) (v := ?_) rfl (by kernel_rfl) (by kernel_rfl) (by kernel_rfl) (fun _ _ _ h => h) (Or.inl ⟨by simp [Region.wanted, yielded, undef], ?_⟩) (by assumption) ?_
        rotate_left
        · ((intro w hSw; (try dsimp only at hSw); go_simp) <;> with_reducible rfl)
        (try simp only [Act.put, List.setIfInBounds_toArray, List.set_cons_zero, List.set_cons_succ])
        refine wpAnyH_ready (rs := [12]) (by kernel_rfl) (by simp) ?_
        refine (AllReadyH.cons (o := ⟨some 65, _, _, _, _, _⟩) rfl (fun K hK => ?_) AllReadyH.nil)
        refine step_push_one elStr rfl _ _ rfl w.heap.size vL (lsM ys).length ((lsM ys).map Value.string) rfl HN.out.s _ [.string (bs r)] HFL.out rfl rfl (by simp [Value.oneCell']) (by rw [lsM_len]; have := HYL.out; simp only [maxLen]; omega) (by rw [lsM_len]; have := HYL.out; omega) (Nat.le_of_lt HN.out.rl) ?_
        intro v7 V hp
        obtain ⟨Al, cl, rfl, _⟩ := own_form hp.1
        refine hK.out _ _ ?_ (fun hHeld => ?_)
        · (try dsimp only)
          try trivial
        clear hK K
        (try simp only [Act.put, List.setIfInBounds_toArray, List.set_cons_zero, List.set_cons_succ])
        have HN := Lib.hid (HN.out.pushL (x := bs r) hp)
        clear hp
        rename World => W
        refine wpAnyH_ready (rs := [14]) (by kernel_rfl) (by simp) ?_
        refine (AllReadyH.cons rfl (fun K hK => ?_) AllReadyH.nil)
        have cx := HN.out.cells.2.2.2
        have fx := HN.out.froz 3
        go_simp
        clear cx fx
        refine hK.out _ _ ?_ (fun hHeld => ?_)
        · (try dsimp only)
          try trivial
        clear hK K
        (try simp only [Act.put, List.setIfInBounds_toArray, List.set_cons_zero, List.set_cons_succ])
        have HN := Lib.hid (HN.out.put 3 (.slice Ak ((ksM ys).length + 1) ck) (bP' := .slice none 0 0) (bL' := vL) (bK' := (.slice Ak ((ksM ys).length + 1) ck)) rfl)
        generalize W.setCell ⟨w.heap.size + 1, 3, none⟩ (.slice Ak ((ksM ys).length + 1) ck) = V at HN hHeld ⊢
        rename World => W
        refine wpAnyH_take (i := 15) (oi := ⟨some 67, _, _, _, _, _⟩) (v := ?_) rfl (by kernel_rfl) (by kernel_rfl) (by kernel_rfl) (fun _ _ _ h => h) (Or.inl ⟨by simp [Region.wanted, yielded, undef], ?_⟩) (by assumption) ?_
        rotate_left
        · ((intro w hSw; (try dsimp only at hSw); go_simp) <;> with_reducible rfl)
        (try simp only [Act.put, List.setIfInBounds_toArray, List.set_cons_zero, List.set_cons_succ])
        refine wpAnyH_ready (rs := [16]) (by kernel_rfl) (by simp) ?_
        refine (AllReadyH.cons rfl (fun K hK => ?_) AllReadyH.nil)
        have cx := HN.out.cells.2.2.1
        have fx := HN.out.froz 2
        go_simp
        clear cx fx
        refine hK.out _ _ ?_ (fun hHeld => ?_)
        · (try dsimp only)
          try trivial
        clear hK K
        (try simp only [Act.put, List.setIfInBounds_toArray, List.set_cons_zero, List.set_cons_succ])
        have HN := Lib.hid (HN.out.put 2 (.slice Al ((lsM ys).length + 1) cl) (bP' := .slice none 0 0) (bL' := (.slice Al ((lsM ys).length + 1) cl)) (bK' := (.slice Ak ((ksM ys).length + 1) ck)) rfl)
        generalize W.setCell ⟨w.heap.size + 1, 2, none⟩ (.slice Al ((lsM ys).length + 1) cl) = V at HN hHeld ⊢
        rename World => W
        refine wpAnyH_done (by kernel_rfl) ?_ _
        refine NoPanic.normal ?_
        focus
          go_wp2_with fail
          go_roundw
          case rel =>
            refine ⟨k + 1, (.slice Al ((lsM ys).length + 1) cl), (.slice Ak ((ksM ys).length + 1) ck), by omega, by go_num, ?_, ?_⟩
            · rw [HTK.out, List.any_append, HYE.out]; rfl
            · rw [HTK.out, lsM_snoc, ksM_snoc]
              exact HN.out
          case measure => simp [intOf]; omega
        go_simp
        refine hK.out _ _ ?_ (fun hHeld => ?_)
        · (try dsimp only)
          try trivial
        clear hK K
        (try simp only [Act.put, List.setIfInBounds_toArray, List.set_cons_zero, List.set_cons_succ])
        obtain ⟨V, hV⟩ : ∃ V : World, V = W.alloc (.cells #[.string (bs r)] 9) := ⟨_, rfl⟩
        rw [← hV]
        have hbW : Below W.heap.size W V := by rw [hV]; exact (Below.refl _ _).alloc (Nat.le_refl _) _
        have HFL : Hid (V.heap[W.heap.size]? = some (.cells #[.string (bs r)] 9 (0, 0))) := by rw [hV]; exact heap_alloc_new _ _
        have HN := Lib.hid (HN.out.old hbW)
        clear hV hbW
        generalize W.heap.size = gpos at HFL
        rename World => W
        refine wpAnyH_ready (rs := [5]) (by kernel_rfl) (by simp) ?_
        refine (AllReadyH.cons (o := ⟨some 58, _, _, _, _, _⟩) rfl (fun K hK => ?_) AllReadyH.nil)
        go_simp
        refine hK.out _ _ ?_ (fun hHeld => ?_)
        · (try dsimp only)
          try trivial
        clear hK K
        (try simp only [Act.put, List.setIfInBounds_toArray, List.set_cons_zero, List.set_cons_succ])
        obtain ⟨V, hV⟩ : ∃ V : World, V = W.alloc (.cells #[.int .i64 (a.toNat : Int)] 3) := ⟨_, rfl⟩
        rw [← hV]
        have hbW : Below W.heap.size W V := by rw [hV]; exact (Below.refl _ _).alloc (Nat.le_refl _) _
        have HFI : Hid (V.heap[W.heap.size]? = some (.cells #[.int .i64 (a.toNat : Int)] 3 (0, 0))) := by rw [hV]; exact heap_alloc_new _ _
        have HFL := Lib.hid ((hbW.block _ (Array.getElem?_eq_some_iff.1 HFL.out).1).trans HFL.out)
        have HN := Lib.hid (HN.out.old hbW)
        clear hV hbW
        generalize W.heap.size = gpos at HFI
        rename World => W
        refine wpAnyH_ready (rs := [6]) (by kernel_rfl) (by simp) ?_
        refine (AllReadyH.cons (o := ⟨some 59, _, _, _, _, _⟩) rfl (fun K hK => ?_) AllReadyH.nil)
        refine step_push_one elInt rfl _ _ rfl w.heap.size vK (ksM ys).length ((ksM ys).map ivi) rfl HN.out.k _ [ivi (a.toNat : Int)] HFI.out rfl rfl (by simp [Value.oneCell']) (by rw [ksM_len]; have := HYL.out; simp only [maxLen]; omega) (by rw [ksM_len]; have := HYL.out; omega) (Nat.le_of_lt HN.out.rl) ?_
        intro v6 V hp
        obtain ⟨Ak, ck, rfl, _⟩ := own_form hp.1
        refine hK.out _ _ ?_ (fun hHeld => ?_)
        · (try dsimp only)
          try trivial
        clear hK K
        (try simp only [Act.put, List.setIfInBounds_toArray, List.set_cons_zero, List.set_cons_succ])
        have HFL := Lib.hid ((hp.2.block _ (Array.getElem?_eq_some_iff.1 HFL.out).1 (fun e => own_ne_blk' HN.out.k HFL.out (by decide) e.symm)).trans HFL.out)
        have HN := Lib.hid (HN.out.pushK (z := (a.toNat : Int)) hp)
        clear hp
        rename World => W
        refine wpAnyH_take (i := 13) (oi := ⟨some 66, _, _, _, _, _⟩) (v := ?_) rfl (by kernel_rfl) (by kernel_rfl) (by kernel_rfl) (fun _ _ _ h => h) (Or.inl ⟨by simp [Region.wanted, yielded, undef], ?_⟩) (by assumption) ?_
        rotate_left
        · ((intro w hSw; (try dsimp only at hSw); go_simp) <;> with_reducible rfl)
        (try simp only [Act.put, List.setIfInBounds_toArray, List.set_cons_zero, List.set_cons_succ])
        refine wpAnyH_ready (rs := [12]) (by kernel_rfl) (by simp) ?_
        refine (AllReadyH.cons (o := ⟨some 65, _, _, _, _, _⟩) rfl (fun K hK => ?_) AllReadyH.nil)
        refine step_push_one elStr rfl _ _ rfl w.heap.size vL (lsM ys).length ((lsM ys).map Value.string) rfl HN.out.s _ [.string (bs r)] HFL.out rfl rfl (by simp [Value.oneCell']) (by rw [lsM_len]; have := HYL.out; simp only [maxLen]; omega) (by rw [lsM_len]; have := HYL.out; omega) (Nat.le_of_lt HN.out.rl) ?_
        intro v7 V hp
        obtain ⟨Al, cl, rfl, _⟩ := own_form hp.1
        refine hK.out _ _ ?_ (fun hHeld => ?_)
        · (try dsimp only)
          try trivial
        clear hK K
        (try simp only [Act.put, List.setIfInBounds_toArray, List.set_cons_zero, List.set_cons_succ])
        have HN := Lib.hid (HN.out.pushL (x := bs r) hp)
        clear hp
        rename World => W
        refine wpAnyH_ready (rs := [14]) (by kernel_rfl) (by simp) ?_
        refine (AllReadyH.cons rfl (fun K hK => ?_) AllReadyH.nil)
        have cx := HN.out.cells.2.2.2
        have fx := HN.out.froz 3
        go_simp
        clear cx fx
        refine hK.out _ _ ?_ (fun hHeld => ?_)
        · (try dsimp only)
          try trivial
        clear hK K
        (try simp only [Act.put, List.setIfInBounds_toArray, List.set_cons_zero, List.set_cons_succ])
        have HN := Lib.hid (HN.out.put 3 (.slice Ak ((ksM ys).length + 1) ck) (bP' := .slice none 0 0) (bL' := vL) (bK' := (.slice Ak ((ksM ys).length + 1) ck)) rfl)
        generalize W.setCell ⟨w.heap.size + 1, 3, none⟩ (.slice Ak ((ksM ys).length + 1) ck) = V at HN hHeld ⊢
        rename World => W
        refine wpAnyH_take (i := 15) (oi := ⟨some 67, _, _, _, _, _⟩) (v := ?_) rfl (by kernel_rfl) (by kernel_rfl) (by kernel_rfl) (fun _ _ _ h => h) (Or.inl ⟨by simp [Region.wanted, yielded, undef], ?_⟩) (by assumption) ?_
        rotate_left
        · ((intro w hSw; (try dsimp only at hSw); go_simp) <;> with_reducible rfl)
        (try simp only [Act.put, List.setIfInBounds_toArray, List.set_cons_zero, List.set_cons_succ])
        refine wpAnyH_ready (rs := [16]) (by kernel_rfl) (by simp) ?_
        refine (AllReadyH.cons rfl (fun K hK => ?_) AllReadyH.nil)
        have cx := HN.out.cells.2.2.1
        have fx := HN.out.froz 2
        go_simp
        clear cx fx
        refine hK.out _ _ ?_ (fun hHeld => ?_)
        · (try dsimp only)
          try trivial
        clear hK K
        (try simp only [Act.put, List.setIfInBounds_toArray, List.set_cons_zero, List.set_cons_succ])
        have HN := Lib.hid (HN.out.put 2 (.slice Al ((lsM ys).length + 1) cl) (bP' := .slice none 0 0) (bL' := (.slice Al ((lsM ys).length + 1) cl)) (bK' := (.slice Ak ((ksM ys).length + 1) ck)) rfl)
        generalize W.setCell ⟨w.heap.size + 1, 2, none⟩ (.slice Al ((lsM ys).length + 1) cl) = V at HN hHeld ⊢
        rename World => W
        refine wpAnyH_done (by kernel_rfl) ?_ _
        refine NoPanic.normal ?_
        focus
          go_wp2_with fail
          go_roundw
          case rel =>
            refine ⟨k + 1, (.slice Al ((lsM ys).length + 1) cl), (.slice Ak ((ksM ys).length + 1) ck), by omega, by go_num, ?_, ?_⟩
            · rw [HTK.out, List.any_append, HYE.out]; rfl
            · rw [HTK.out, lsM_snoc, ksM_snoc]
              exact HN.out
          case measure => simp [intOf]; omega
        go_simp
        refine hK.out _ _ ?_ (fun hHeld => ?_)
        · (try dsimp only)
          try trivial
        clear hK K
        (try simp only [Act.put, List.setIfInBounds_toArray, List.set_cons_zero, List.set_cons_succ])
        obtain ⟨V, hV⟩ : ∃ V : World, V = W.alloc (.cells #[.int .i64 (a.toNat : Int)] 3) := ⟨_, rfl⟩
        rw [← hV]
        have hbW : Below W.heap.size W V := by rw [hV]; exact (Below.refl _ _).alloc (Nat.le_refl _) _
        have HFI : Hid (V.heap[W.heap.size]? = some (.cells #[.int .i64 (a.toNat : Int)] 3 (0, 0))) := by rw [hV]; exact heap_alloc_new _ _
        have HN := Lib.hid (HN.out.old hbW)
        clear hV hbW
        generalize W.heap.size = gpos at HFI
        rename World => W
        refine wpAnyH_ready (rs := [1, 11]) (by kernel_rfl) (by simp) ?_
        refine (AllReadyH.cons (o := ⟨some 54, _, _, _, _, _⟩) rfl (fun K hK => ?_) (AllReadyH.cons (o := ⟨some 64, _, _, _, _, _⟩) rfl (fun K hK => ?_) AllReadyH.nil))
        have cx := HN.out.cells.2.2.2
        go_simp
        clear cx
        refine hK.out _ _ ?_ (fun hHeld => ?_)
        · (try dsimp only)
          try trivial
        clear hK K
        (try simp only [Act.put, List.setIfInBounds_toArray, List.set_cons_zero, List.set_cons_succ])
        refine wpAnyH_ready (rs := [6, 11]) (by kernel_rfl) (by simp) ?_
        refine (AllReadyH.cons (o := ⟨some 59, _, _, _, _, _⟩) rfl (fun K hK => ?_) (AllReadyH.cons (o := ⟨some 64, _, _, _, _, _⟩) rfl (fun K hK => ?_) AllReadyH.nil))
        refine step_push_one elInt rfl _ _ rfl w.heap.size vK (ksM ys).length ((ksM ys).map ivi) rfl HN.out.k _ [ivi (a.toNat : Int)] HFI.out rfl rfl (by simp [Value.oneCell']) (by rw [ksM_len]; have := HYL.out; simp only [maxLen]; omega) (by rw [ksM_len]; have := HYL.out; omega) (Nat.le_of_lt HN.out.rl) ?_
        intro v6 V hp
        obtain ⟨Ak, ck, rfl, _⟩ := own_form hp.1
        refine hK.out _ _ ?_ (fun hHeld => ?_)
        · (try dsimp only)
          try trivial
        clear hK K
        (try simp only [Act.put, List.setIfInBounds_toArray, List.set_cons_zero, List.set_cons_succ])
        have HN := Lib.hid (HN.out.pushK (z := (a.toNat : Int)) hp)
        clear hp
        rename World => W
        refine wpAnyH_take (i := 13) (oi := ⟨some 66, _, _, _, _, _⟩) (v := ?_) rfl (by kernel_rfl) (by kernel_rfl) (by kernel_rfl) (fun _ _ _ h => h) (Or.inl ⟨by simp [Region.wanted, yielded, undef], ?_⟩) (by assumption) ?_
        rotate_left
        · ((intro w hSw; (try dsimp only at hSw); go_simp) <;> with_reducible rfl)
        (try simp only [Act.put, List.setIfInBounds_toArray, List.set_cons_zero, List.set_cons_succ])
        refine wpAnyH_ready (rs := [11]) (by kernel_rfl) (by simp) ?_
        refine (AllReadyH.cons (o := ⟨some 64, _, _, _, _, _⟩) rfl (fun K hK => ?_) AllReadyH.nil)
        go_simp
        refine hK.out _ _ ?_ (fun hHeld => ?_)
        · (try dsimp only)
          try trivial
        clear hK K
        (try simp only [Act.put, List.setIfInBounds_toArray, List.set_cons_zero, List.set_cons_succ])
        obtain ⟨V, hV⟩ : ∃ V : World, V = W.alloc (.cells #[.string (bs r)] 9) := ⟨_, rfl⟩
        rw [← hV]
        have hbW : Below W.heap.size W V := by rw [hV]; exact (Below.refl _ _).alloc (Nat.le_refl _) _
        have HFL : Hid (V.heap[W.heap.size]? = some (.cells #[.string (bs r)] 9 (0, 0))) := by rw [hV]; exact heap_alloc_new _ _
        have HN := Lib.hid (HN.out.old hbW)
        clear hV hbW
        generalize W.heap.size = gpos at HFL
        rename World => W
        refine wpAnyH_ready (rs := [12]) (by kernel_rfl) (by simp) ?_
        refine (AllReadyH.cons (o := ⟨some 65, _, _, _, _, _⟩) rfl (fun K hK => ?_) AllReadyH.nil)
        refine step_push_one elStr rfl _ _ rfl w.heap.size vL (lsM ys).length ((lsM ys).map Value.string) rfl HN.out.s _ [.string (bs r)] HFL.out rfl rfl (by simp [Value.oneCell']) (by rw [lsM_len]; have := HYL.out; simp only [maxLen]; omega) (by rw [lsM_len]; have := HYL.out; omega) (Nat.le_of_lt HN.out.rl) ?_
        intro v7 V hp
        obtain ⟨Al, cl, rfl, _⟩ := own_form hp.1
        refine hK.out _ _ ?_ (fun hHeld => ?_)
        · (try dsimp only)
          try trivial
        clear hK K
        (try simp only [Act.put, List.setIfInBounds_toArray, List.set_cons_zero, List.set_cons_succ])
        have HN := Lib.hid (HN.out.pushL (x := bs r) hp)
        clear hp
        rename World => W
        refine wpAnyH_ready (rs := [14]) (by kernel_rfl) (by simp) ?_
        refine (AllReadyH.cons rfl (fun K hK => ?_) AllReadyH.nil)
        have cx := HN.out.cells.2.2.2
        have fx := HN.out.froz 3
        go_simp
        clear cx fx
        refine hK.out _ _ ?_ (fun hHeld => ?_)
        · (try dsimp only)
          try trivial
        clear hK K
        (try simp only [Act.put, List.setIfInBounds_toArray, List.set_cons_zero, List.set_cons_succ])
        have HN := Lib.hid (HN.out.put 3 (.slice Ak ((ksM ys).length + 1) ck) (bP' := .slice none 0 0) (bL' := vL) (bK' := (.slice Ak ((ksM ys).length + 1) ck)) rfl)
        generalize W.setCell ⟨w.heap.size + 1, 3, none⟩ (.slice Ak ((ksM ys).length + 1) ck) = V at HN hHeld ⊢
        rename World => W
        refine wpAnyH_take (i := 15) (oi := ⟨some 67, _, _, _, _, _⟩) (v := ?_) rfl (by kernel_rfl) (by kernel_rfl) (by kernel_rfl) (fun _ _ _ h => h) (Or.inl ⟨by simp [Region.wanted, yielded, undef], ?_⟩) (by assumption) ?_
        rotate_left
        · ((intro w hSw; (try dsimp only at hSw); go_simp) <;> with_reducible rfl)
        (try simp only [Act.put, List.setIfInBounds_toArray, List.set_cons_zero, List.set_cons_succ])
        refine wpAnyH_ready (rs := [16]) (by kernel_rfl) (by simp) ?_
        refine (AllReadyH.cons rfl (fun K hK => ?_) AllReadyH.nil)
        have cx := HN.out.cells.2.2.1
        have fx := HN.out.froz 2
        go_simp
        clear cx fx
        refine hK.out _ _ ?_ (fun hHeld => ?_)
        · (try dsimp only)
          try trivial
        clear hK K
        (try simp only [Act.put, List.setIfInBounds_toArray, List.set_cons_zero, List.set_cons_succ])
        have HN := Lib.hid (HN.out.put 2 (.slice Al ((lsM ys).length + 1) cl) (bP' := .slice none 0 0) (bL' := (.slice Al ((lsM ys).length + 1) cl)) (bK' := (.slice Ak ((ksM ys).length + 1) ck)) rfl)
        generalize W.setCell ⟨w.heap.size + 1, 2, none⟩ (.slice Al ((lsM ys).length + 1) cl) = V at HN hHeld ⊢
        rename World => W
        refine wpAnyH_done (by kernel_rfl) ?_ _
        refine NoPanic.normal ?_
        focus
          go_wp2_with fail
          go_roundw
          case rel =>
            refine ⟨k + 1, (.slice Al ((lsM ys).length + 1) cl), (.slice Ak ((ksM ys).length + 1) ck), by omega, by go_num, ?_, ?_⟩
            · rw [HTK.out, List.any_append, HYE.out]; rfl
            · rw [HTK.out, lsM_snoc, ksM_snoc]
              exact HN.out
          case measure => simp [intOf]; omega
        go_simp
        refine hK.out _ _ ?_ (fun hHeld => ?_)
        · (try dsimp only)
          try trivial
        clear hK K
        (try simp only [Act.put, List.setIfInBounds_toArray, List.set_cons_zero, List.set_cons_succ])
        obtain ⟨V, hV⟩ : ∃ V : World, V = W.alloc (.cells #[.string (bs r)] 9) := ⟨_, rfl⟩
        rw [← hV]
        have hbW : Below W.heap.size W V := by rw [hV]; exact (Below.refl _ _).alloc (Nat.le_refl _) _
        have HFL : Hid (V.heap[W.heap.size]? = some (.cells #[.string (bs r)] 9 (0, 0))) := by rw [hV]; exact heap_alloc_new _ _
        have HFI := Lib.hid ((hbW.block _ (Array.getElem?_eq_some_iff.1 HFI.out).1).trans HFI.out)
        have HN := Lib.hid (HN.out.old hbW)
        clear hV hbW
        generalize W.heap.size = gpos at HFL
        rename World => W
        refine wpAnyH_ready (rs := [6]) (by kernel_rfl) (by simp) ?_
        refine (AllReadyH.cons (o := ⟨some 59, _, _, _, _, _⟩) rfl (fun K hK => ?_) AllReadyH.nil)
        refine step_push_one elInt rfl _ _ rfl w.heap.size vK (ksM ys).length ((ksM ys).map ivi) rfl HN.out.k _ [ivi (a.toNat : Int)] HFI.out rfl rfl (by simp [Value.oneCell']) (by rw [ksM_len]; have := HYL.out; simp only [maxLen]; omega) (by rw [ksM_len]; have := HYL.out; omega) (Nat.le_of_lt HN.out.rl) ?_
        intro v6 V hp
        obtain ⟨Ak, ck, rfl, _⟩ := own_form hp.1
        refine hK.out _ _ ?_ (fun hHeld => ?_)
        · (try dsimp only)
          try trivial
        clear hK K
        (try simp only [Act.put, List.setIfInBounds_toArray, List.set_cons_zero, List.set_cons_succ])
        have HFL := Lib.hid ((hp.2.block _ (Array.getElem?_eq_some_iff.1 HFL.out).1 (fun e => own_ne_blk' HN.out.k HFL.out (by decide) e.symm)).trans HFL.out)
        have HN := Lib.hid (HN.out.pushK (z := (a.toNat : Int)) hp)
        clear hp
        rename World => W
        refine wpAnyH_take (i := 13) (oi := ⟨some 66, _, _, _, _, _⟩) (v := ?_) rfl (by kernel_rfl) (by kernel_rfl) (by kernel_rfl) (fun _ _ _ h => h) (Or.inl ⟨by simp [Region.wanted, yielded, undef], ?_⟩) (by assumption) ?_
        rotate_left
        · ((intro w hSw; (try dsimp only at hSw); go_simp) <;> with_reducible rfl)
        (try simp only [Act.put, List.setIfInBounds_toArray, List.set_cons_zero, List.set_cons_succ])
        refine wpAnyH_ready (rs := [12]) (by kernel_rfl) (by simp) ?_
        refine (AllReadyH.cons (o := ⟨some 65, _, _, _, _, _⟩) rfl (fun K hK => ?_) AllReadyH.nil)
        refine step_push_one elStr rfl _ _ rfl w.heap.size vL (lsM ys).length ((lsM ys).map Value.string) rfl HN.out.s _ [.string (bs r)] HFL.out rfl rfl (by simp [Value.oneCell']) (by rw [lsM_len]; have := HYL.out; simp only [maxLen]; omega) (by rw [lsM_len]; have := HYL.out; omega) (Nat.le_of_lt HN.out.rl) ?_
        intro v7 V hp
        obtain ⟨Al, cl, rfl, _⟩ := own_form hp.1
        refine hK.out _ _ ?_ (fun hHeld => ?_)
        · (try dsimp only)
          try trivial
        clear hK K
        (try simp only [Act.put, List.setIfInBounds_toArray, List.set_cons_zero, List.set_cons_succ])
        have HN := Lib.hid (HN.out.pushL (x := bs r) hp)
        clear hp
        rename World => W
        refine wpAnyH_ready (rs := [14]) (by kernel_rfl) (by simp) ?_
        refine (AllReadyH.cons rfl (fun K hK => ?_) AllReadyH.nil)
        have cx := HN.out.cells.2.2.2
        have fx := HN.out.froz 3
        go_simp
        clear cx fx
        refine hK.out _ _ ?_ (fun hHeld => ?_)
        · (try dsimp only)
          try trivial
        clear hK K
        (try simp only [Act.put, List.setIfInBounds_toArray, List.set_cons_zero, List.set_cons_succ])
        have HN := Lib.hid (HN.out.put 3 (.slice Ak ((ksM ys).length + 1) ck) (bP' := .slice none 0 0) (bL' := vL) (bK' := (.slice Ak ((ksM ys).length + 1) ck)) rfl)
        generalize W.setCell ⟨w.heap.size + 1, 3, none⟩ (.slice Ak ((ksM ys).length + 1) ck) = V at HN hHeld ⊢
        rename World => W
        refine wpAnyH_take (i := 15) (oi := ⟨some 67, _, _, _, _, _⟩) (v := ?_) rfl (by kernel_rfl) (by kernel_rfl) (by kernel_rfl) (fun _ _ _ h => h) (Or.inl ⟨by simp [Region.wanted, yielded, undef], ?_⟩) (by assumption) ?_
        rotate_left
        · ((intro w hSw; (try dsimp only at hSw); go_simp) <;> with_reducible rfl)
        (try simp only [Act.put, List.setIfInBounds_toArray, List.set_cons_zero, List.set_cons_succ])
        refine wpAnyH_ready (rs := [16]) (by kernel_rfl) (by simp) ?_
        refine (AllReadyH.cons rfl (fun K hK => ?_) AllReadyH.nil)
        have cx := HN.out.cells.2.2.1
        have fx := HN.out.froz 2
        go_simp
        clear cx fx
        refine hK.out _ _ ?_ (fun hHeld => ?_)
        · (try dsimp only)
          try trivial
        clear hK K
        (try simp only [Act.put, List.setIfInBounds_toArray, List.set_cons_zero, List.set_cons_succ])
        have HN := Lib.hid (HN.out.put 2 (.slice Al ((lsM ys).length + 1) cl) (bP' := .slice none 0 0) (bL' := (.slice Al ((lsM ys).length + 1) cl)) (bK' := (.slice Ak ((ksM ys).length + 1) ck)) rfl)
        generalize W.setCell ⟨w.heap.size + 1, 2, none⟩ (.slice Al ((lsM ys).length + 1) cl) = V at HN hHeld ⊢
        rename World => W
        refine wpAnyH_done (by kernel_rfl) ?_ _
        refine NoPanic.normal ?_
        focus
          go_wp2_with fail
          go_roundw
          case rel =>
            refine ⟨k + 1, (.slice Al ((lsM ys).length + 1) cl), (.slice Ak ((ksM ys).length + 1) ck), by omega, by go_num, ?_, ?_⟩
            · rw [HTK.out, List.any_append, HYE.out]; rfl
            · rw [HTK.out, lsM_snoc, ksM_snoc]
              exact HN.out
          case measure => simp [intOf]; omega
        go_simp
        refine hK.out _ _ ?_ (fun hHeld => ?_)
        · (try dsimp only)
          try trivial
        clear hK K
        (try simp only [Act.put, List.setIfInBounds_toArray, List.set_cons_zero, List.set_cons_succ])
        obtain ⟨V, hV⟩ : ∃ V : World, V = W.alloc (.cells #[.string (bs r)] 9) := ⟨_, rfl⟩
        rw [← hV]
        have hbW : Below W.heap.size W V := by rw [hV]; exact (Below.refl _ _).alloc (Nat.le_refl _) _
        have HFL : Hid (V.heap[W.heap.size]? = some (.cells #[.string (bs r)] 9 (0, 0))) := by rw [hV]; exact heap_alloc_new _ _
        have HFI := Lib.hid ((hbW.block _ (Array.getElem?_eq_some_iff.1 HFI.out).1).trans HFI.out)
        have HN := Lib.hid (HN.out.old hbW)
        clear hV hbW
        generalize W.heap.size = gpos at HFL
        rename World => W
        refine wpAnyH_ready (rs := [1]) (by kernel_rfl) (by simp) ?_
        refine (AllReadyH.cons (o := ⟨some 54, _, _, _, _, _⟩) rfl (fun K hK => ?_) AllReadyH.nil)
        have cx := HN.out.cells.2.2.2
        go_simp
        clear cx
        refine hK.out _ _ ?_ (fun hHeld => ?_)
        · (try dsimp only)
          try trivial
        clear hK K
        (try simp only [Act.put, List.setIfInBounds_toArray, List.set_cons_zero, List.set_cons_succ])
        refine wpAnyH_ready (rs := [6]) (by kernel_rfl) (by simp) ?_
        refine (AllReadyH.cons (o := ⟨some 59, _, _, _, _, _⟩) rfl (fun K hK => ?_) AllReadyH.nil)
        refine step_push_one elInt rfl _ _ rfl w.heap.size vK (ksM ys).length ((ksM ys).map ivi) rfl HN.out.k _ [ivi (a.toNat : Int)] HFI.out rfl rfl (by simp [Value.oneCell']) (by rw [ksM_len]; have := HYL.out; simp only [maxLen]; omega) (by rw [ksM_len]; have := HYL.out; omega) (Nat.le_of_lt HN.out.rl) ?_
        intro v6 V hp
        obtain ⟨Ak, ck, rfl, _⟩ := own_form hp.1
        refine hK.out _ _ ?_ (fun hHeld => ?_)
        · (try dsimp only)
          try trivial
        clear hK K
        (try simp only [Act.put, List.setIfInBounds_toArray, List.set_cons_zero, List.set_cons_succ])
        have HFL := Lib.hid ((hp.2.block _ (Array.getElem?_eq_some_iff.1 HFL.out).1 (fun e => own_ne_blk' HN.out.k HFL.out (by decide) e.symm)).trans HFL.out)
        have HN := Lib.hid (HN.out.pushK (z := (a.toNat : Int)) hp)
        clear hp
        rename World => W
        refine wpAnyH_take (i := 13) (oi := ⟨some 66, _, _, _, _, _⟩) (v := ?_) rfl (by kernel_rfl) (by kernel_rfl) (by kernel_rfl) (fun _ _ _ h => h) (Or.inl ⟨by simp [Region.wanted, yielded, undef], ?_⟩) (by assumption) ?_
        rotate_left
        · ((intro w hSw; (try dsimp only at hSw); go_simp) <;> with_reducible rfl)
        (try simp only [Act.put, List.setIfInBounds_toArray, List.set_cons_zero, List.set_cons_succ])
        refine wpAnyH_ready (rs := [12]) (by kernel_rfl) (by simp) ?_
        refine (AllReadyH.cons (o := ⟨some 65, _, _, _, _, _⟩) rfl (fun K hK => ?_) AllReadyH.nil)
        refine step_push_one elStr rfl _ _ rfl w.heap.size vL (lsM ys).length ((lsM ys).map Value.string) rfl HN.out.s _ [.string (bs r)] HFL.out rfl rfl (by simp [Value.oneCell']) (by rw [lsM_len]; have := HYL.out; simp only [maxLen]; omega) (by rw [lsM_len]; have := HYL.out; omega) (Nat.le_of_lt HN.out.rl) ?_
        intro v7 V hp
        obtain ⟨Al, cl, rfl, _⟩ := own_form hp.1
        refine hK.out _ _ ?_ (fun hHeld => ?_)
        · (try dsimp only)
          try trivial
        clear hK K
        (try simp only [Act.put, List.setIfInBounds_toArray, List.set_cons_zero, List.set_cons_succ])
        have HN := Lib.hid (HN.out.pushL (x := bs r) hp)
        clear hp
        rename World => W
        refine wpAnyH_ready (rs := [14]) (by kernel_rfl) (by simp) ?_
        refine (AllReadyH.cons rfl (fun K hK => ?_) AllReadyH.nil)
        have cx := HN.out.cells.2.2.2
        have fx := HN.out.froz 3
        go_simp
        clear cx fx
        refine hK.out _ _ ?_ (fun hHeld => ?_)
        · (try dsimp only)
          try trivial
        clear hK K
        (try simp only [Act.put, List.setIfInBounds_toArray, List.set_cons_zero, List.set_cons_succ])
        have HN := Lib.hid (HN.out.put 3 (.slice Ak ((ksM ys).length + 1) ck) (bP' := .slice none 0 0) (bL' := vL) (bK' := (.slice Ak ((ksM ys).length + 1) ck)) rfl)
        generalize W.setCell ⟨w.heap.size + 1, 3, none⟩ (.slice Ak ((ksM ys).length + 1) ck) = V at HN hHeld ⊢
        rename World => W
        refine wpAnyH_take (i := 15) (oi := ⟨some 67, _, _, _, _, _⟩) (v := ?_) rfl (by kernel_rfl) (by kernel_rfl) (by kernel_rfl) (fun _ _ _ h => h) (Or.inl ⟨by simp [Region.wanted, yielded, undef], ?_⟩) (by assumption) ?_
        rotate_left
        · ((intro w hSw; (try dsimp only at hSw); go_simp) <;> with_reducible rfl)
        (try simp only [Act.put, List.setIfInBounds_toArray, List.set_cons_zero, List.set_cons_succ])
        refine wpAnyH_ready (rs := [16]) (by kernel_rfl) (by simp) ?_
        refine (AllReadyH.cons rfl (fun K hK => ?_) AllReadyH.nil)
        have cx := HN.out.cells.2.2.1
        have fx := HN.out.froz 2
        go_simp
        clear cx fx
        refine hK.out _ _ ?_ (fun hHeld => ?_)
        · (try dsimp only)
          try trivial
        clear hK K
        (try simp only [Act.put, List.setIfInBounds_toArray, List.set_cons_zero, List.set_cons_succ])
        have HN := Lib.hid (HN.out.put 2 (.slice Al ((lsM ys).length + 1) cl) (bP' := .slice none 0 0) (bL' := (.slice Al ((lsM ys).length + 1) cl)) (bK' := (.slice Ak ((ksM ys).length + 1) ck)) rfl)
        generalize W.setCell ⟨w.heap.size + 1, 2, none⟩ (.slice Al ((lsM ys).length + 1) cl) = V at HN hHeld ⊢
        rename World => W
        refine wpAnyH_done (by kernel_rfl) ?_ _
        refine NoPanic.normal ?_
        focus
          go_wp2_with fail
          go_roundw
          case rel =>
            refine ⟨k + 1, (.slice Al ((lsM ys).length + 1) cl), (.slice Ak ((ksM ys).length + 1) ck), by omega, by go_num, ?_, ?_⟩
            · rw [HTK.out, List.any_append, HYE.out]; rfl
            · rw [HTK.out, lsM_snoc, ksM_snoc]
              exact HN.out
          case measure => simp [intOf]; omega
        go_simp
        refine hK.out _ _ ?_ (fun hHeld => ?_)
        · (try dsimp only)
          try trivial
        clear hK K
        (try simp only [Act.put, List.setIfInBounds_toArray, List.set_cons_zero, List.set_cons_succ])
        obtain ⟨V, hV⟩ : ∃ V : World, V = W.alloc (.cells #[.string (bs r)] 9) := ⟨_, rfl⟩
        rw [← hV]
        have hbW : Below W.heap.size W V := by rw [hV]; exact (Below.refl _ _).alloc (Nat.le_refl _) _
        have HFL : Hid (V.heap[W.heap.size]? = some (.cells #[.string (bs r)] 9 (0, 0))) := by rw [hV]; exact heap_alloc_new _ _
        have HN := Lib.hid (HN.out.old hbW)
        clear hV hbW
        generalize W.heap.size = gpos at HFL
        rename World => W
        refine wpAnyH_ready (rs := [1, 5]) (by kernel_rfl) (by simp) ?_
        refine (AllReadyH.cons (o := ⟨some 54, _, _, _, _, _⟩) rfl (fun K hK => ?_) (AllReadyH.cons (o := ⟨some 58, _, _, _, _, _⟩) rfl (fun K hK => ?_) AllReadyH.nil))
        have cx := HN.out.cells.2.2.2
        go_simp
        clear cx
        refine hK.out _ _ ?_ (fun hHeld => ?_)
        · (try dsimp only)
          try trivial
        clear hK K
        (try simp only [Act.put, List.setIfInBounds_toArray, List.set_cons_zero, List.set_cons_succ])
        refine wpAnyH_ready (rs := [5]) (by kernel_rfl) (by simp) ?_
        refine (AllReadyH.cons (o := ⟨some 58, _, _, _, _, _⟩) rfl (fun K hK => ?_) AllReadyH.nil)
        go_simp
        refine hK.out _ _ ?_ (fun hHeld => ?_)
        · (try dsimp only)
          try trivial
        clear hK K
        (try simp only [Act.put, List.setIfInBounds_toArray, List.set_cons_zero, List.set_cons_succ])
        obtain ⟨V, hV⟩ : ∃ V : World, V = W.alloc (.cells #[.int .i64 (a.toNat : Int)] 3) := ⟨_, rfl⟩
        rw [← hV]
        have hbW : Below W.heap.size W V := by rw [hV]; exact (Below.refl _ _).alloc (Nat.le_refl _) _
        have HFI : Hid (V.heap[W.heap.size]? = some (.cells #[.int .i64 (a.toNat : Int)] 3 (0, 0))) := by rw [hV]; exact heap_alloc_new _ _
        have HFL := Lib.hid ((hbW.block _ (Array.getElem?_eq_some_iff.1 HFL.out).1).trans HFL.out)
        have HN := Lib.hid (HN.out.old hbW)
        clear hV hbW
        generalize W.heap.size = gpos at HFI
        rename World => W
        refine wpAnyH_ready (rs := [6]) (by kernel_rfl) (by simp) ?_
        refine (AllReadyH.cons (o := ⟨some 59, _, _, _, _, _⟩) rfl (fun K hK => ?_) AllReadyH.nil)
        refine step_push_one elInt rfl _ _ rfl w.heap.size vK (ksM ys).length ((ksM ys).map ivi) rfl HN.out.k _ [ivi (a.toNat : Int)] HFI.out rfl rfl (by simp [Value.oneCell']) (by rw [ksM_len]; have := HYL.out; simp only [maxLen]; omega) (by rw [ksM_len]; have := HYL.out; omega) (Nat.le_of_lt HN.out.rl) ?_
        intro v6 V hp
        obtain ⟨Ak, ck, rfl, _⟩ := own_form hp.1
        refine hK.out _ _ ?_ (fun hHeld => ?_)
        · (try dsimp only)
          try trivial
        clear hK K
        (try simp only [Act.put, List.setIfInBounds_toArray, List.set_cons_zero, List.set_cons_succ])
        have HFL := Lib.hid ((hp.2.block _ (Array.getElem?_eq_some_iff.1 HFL.out).1 (fun e => own_ne_blk' HN.out.k HFL.out (by decide) e.symm)).trans HFL.out)
        have HN := Lib.hid (HN.out.pushK (z := (a.toNat : Int)) hp)
        clear hp
        rename World => W
        refine wpAnyH_take (i := 13) (oi := ⟨some 66, _, _, _, _, _⟩) (v := ?_) rfl (by kernel_rfl) (by kernel_rfl) (by kernel_rfl) (fun _ _ _ h => h) (Or.inl ⟨by simp [Region.wanted, yielded, undef], ?_⟩) (by assumption) ?_
        rotate_left
        · ((intro w hSw; (try dsimp only at hSw); go_simp) <;> with_reducible rfl)
        (try simp only [Act.put, List.setIfInBounds_toArray, List.set_cons_zero, List.set_cons_succ])
        refine wpAnyH_ready (rs := [12]) (by kernel_rfl) (by simp) ?_
        refine (AllReadyH.cons (o := ⟨some 65, _, _, _, _, _⟩) rfl (fun K hK => ?_) AllReadyH.nil)
        refine step_push_one elStr rfl _ _ rfl w.heap.size vL (lsM ys).length ((lsM ys).map Value.string) rfl HN.out.s _ [.string (bs r)] HFL.out rfl rfl (by simp [Value.oneCell']) (by rw [lsM_len]; have := HYL.out; simp only [maxLen]; omega) (by rw [lsM_len]; have := HYL.out; omega) (Nat.le_of_lt HN.out.rl) ?_
        intro v7 V hp
        obtain ⟨Al, cl, rfl, _⟩ := own_form hp.1
        refine hK.out _ _ ?_ (fun hHeld => ?_)
        · (try dsimp only)
          try trivial
        clear hK K
        (try simp only [Act.put, List.setIfInBounds_toArray, List.set_cons_zero, List.set_cons_succ])
        have HN := Lib.hid (HN.out.pushL (x := bs r) hp)
        clear hp
        rename World => W
        refine wpAnyH_ready (rs := [14]) (by kernel_rfl) (by simp) ?_
        refine (AllReadyH.cons rfl (fun K hK => ?_) AllReadyH.nil)
        have cx := HN.out.cells.2.2.2
        have fx := HN.out.froz 3
        go_simp
        clear cx fx
        refine hK.out _ _ ?_ (fun hHeld => ?_)
        · (try dsimp only)
          try trivial
        clear hK K
        (try simp only [Act.put, List.setIfInBounds_toArray, List.set_cons_zero, List.set_cons_succ])
        have HN := Lib.hid (HN.out.put 3 (.slice Ak ((ksM ys).length + 1) ck) (bP' := .slice none 0 0) (bL' := vL) (bK' := (.slice Ak ((ksM ys).length + 1) ck)) rfl)
        generalize W.setCell ⟨w.heap.size + 1, 3, none⟩ (.slice Ak ((ksM ys).length + 1) ck) = V at HN hHeld ⊢
        rename World => W
        refine wpAnyH_take (i := 15) (oi := ⟨some 67, _, _, _, _, _⟩) (v := ?_) rfl (by kernel_rfl) (by kernel_rfl) (by kernel_rfl) (fun _ _ _ h => h) (Or.inl ⟨by simp [Region.wanted, yielded, undef], ?_⟩) (by assumption) ?_
        rotate_left
        · ((intro w hSw; (try dsimp only at hSw); go_simp) <;> with_reducible rfl)
        (try simp only [Act.put, List.setIfInBounds_toArray, List.set_cons_zero, List.set_cons_succ])
        refine wpAnyH_ready (rs := [16]) (by kernel_rfl) (by simp) ?_
        refine (AllReadyH.cons rfl (fun K hK => ?_) AllReadyH.nil)
        have cx := HN.out.cells.2.2.1
        have fx := HN.out.froz 2
        go_simp
        clear cx fx
        refine hK.out _ _ ?_ (fun hHeld => ?_)
        · (try dsimp only)
          try trivial
        clear hK K
        (try simp only [Act.put, List.setIfInBounds_toArray, List.set_cons_zero, List.set_cons_succ])
        have HN := Lib.hid (HN.out.put 2 (.slice Al ((lsM ys).length + 1) cl) (bP' := .slice none 0 0) (bL' := (.slice Al ((lsM ys).length + 1) cl)) (bK' := (.slice Ak ((ksM ys).length + 1) ck)) rfl)
        generalize W.setCell ⟨w.heap.size + 1, 2, none⟩ (.slice Al ((lsM ys).length + 1) cl) = V at HN hHeld ⊢
        rename World => W
        refine wpAnyH_done (by kernel_rfl) ?_ _
        refine NoPanic.normal ?_
        focus
          go_wp2_with fail
          go_roundw
          case rel =>
            refine ⟨k + 1, (.slice Al ((lsM ys).length + 1) cl), (.slice Ak ((ksM ys).length + 1) ck), by omega, by go_num, ?_, ?_⟩
            · rw [HTK.out, List.any_append, HYE.out]; rfl
            · rw [HTK.out, lsM_snoc, ksM_snoc]
              exact HN.out
          case measure => simp [intOf]; omega
        go_simp
        refine hK.out _ _ ?_ (fun hHeld => ?_)
        · (try dsimp only)
          try trivial
        clear hK K
        (try simp only [Act.put, List.setIfInBounds_toArray, List.set_cons_zero, List.set_cons_succ])
        obtain ⟨V, hV⟩ : ∃ V : World, V = W.alloc (.cells #[.int .i64 (a.toNat : Int)] 3) := ⟨_, rfl⟩
        rw [← hV]
        have hbW : Below W.heap.size W V := by rw [hV]; exact (Below.refl _ _).alloc (Nat.le_refl _) _
        have HFI : Hid (V.heap[W.heap.size]? = some (.cells #[.int .i64 (a.toNat : Int)] 3 (0, 0))) := by rw [hV]; exact heap_alloc_new _ _
        have HFL := Lib.hid ((hbW.block _ (Array.getElem?_eq_some_iff.1 HFL.out).1).trans HFL.out)
        have HN := Lib.hid (HN.out.old hbW)
        clear hV hbW
        generalize W.heap.size = gpos at HFI
        rename World => W
        refine wpAnyH_ready (rs := [1]) (by kernel_rfl) (by simp) ?_
        refine (AllReadyH.cons (o := ⟨some 54, _, _, _, _, _⟩) rfl (fun K hK => ?_) AllReadyH.nil)
        have cx := HN.out.cells.2.2.2
        go_simp
        clear cx
        refine hK.out _ _ ?_ (fun hHeld => ?_)
        · (try dsimp only)
          try trivial
        clear hK K
        (try simp only [Act.put, List.setIfInBounds_toArray, List.set_cons_zero, List.set_cons_succ])
        refine wpAnyH_ready (rs := [6]) (by kernel_rfl) (by simp) ?_
        refine (AllReadyH.cons (o := ⟨some 59, _, _, _, _, _⟩) rfl (fun K hK => ?_) AllReadyH.nil)
        refine step_push_one elInt rfl _ _ rfl w.heap.size vK (ksM ys).length ((ksM ys).map ivi) rfl HN.out.k _ [ivi (a.toNat : Int)] HFI.out rfl rfl (by simp [Value.oneCell']) (by rw [ksM_len]; have := HYL.out; simp only [maxLen]; omega) (by rw [ksM_len]; have := HYL.out; omega) (Nat.le_of_lt HN.out.rl) ?_
        intro v6 V hp
        obtain ⟨Ak, ck, rfl, _⟩ := own_form hp.1
        refine hK.out _ _ ?_ (fun hHeld => ?_)
        · (try dsimp only)
          try trivial
        clear hK K
        (try simp only [Act.put, List.setIfInBounds_toArray, List.set_cons_zero, List.set_cons_succ])
        have HFL := Lib.hid ((hp.2.block _ (Array.getElem?_eq_some_iff.1 HFL.out).1 (fun e => own_ne_blk' HN.out.k HFL.out (by decide) e.symm)).trans HFL.out)
        have HN := Lib.hid (HN.out.pushK (z := (a.toNat : Int)) hp)
        clear hp
        rename World => W
        refine wpAnyH_take (i := 13) (oi := ⟨some 66, _, _, _, _, _⟩) (v := ?_) rfl (by kernel_rfl) (by kernel_rfl) (by kernel_rfl) (fun _ _ _ h => h) (Or.inl ⟨by simp [Region.wanted, yielded, undef], ?_⟩) (by assumption) ?_
        rotate_left
        · ((intro w hSw; (try dsimp only at hSw); go_simp) <;> with_reducible rfl)
        (try simp only [Act.put, List.setIfInBounds_toArray, List.set_cons_zero, List.set_cons_succ])
        refine wpAnyH_ready (rs := [12]) (by kernel_rfl) (by simp) ?_
        refine (AllReadyH.cons (o := ⟨some 65, _, _, _, _, _⟩) rfl (fun K hK => ?_) AllReadyH.nil)
        refine step_push_one elStr rfl _ _ rfl w.heap.size vL (lsM ys).length ((lsM ys).map Value.string) rfl HN.out.s _ [.string (bs r)] HFL.out rfl rfl (by simp [Value.oneCell']) (by rw [lsM_len]; have := HYL.out; simp only [maxLen]; omega) (by rw [lsM_len]; have := HYL.out; omega) (Nat.le_of_lt HN.out.rl) ?_
        intro v7 V hp
        obtain ⟨Al, cl, rfl, _⟩ := own_form hp.1
        refine hK.out _ _ ?_ (fun hHeld => ?_)
        · (try dsimp only)
          try trivial
        clear hK K
        (try simp only [Act.put, List.setIfInBounds_toArray, List.set_cons_zero, List.set_cons_succ])
        have HN := Lib.hid (HN.out.pushL (x := bs r) hp)
        clear hp
        rename World => W
        refine wpAnyH_ready (rs := [14]) (by kernel_rfl) (by simp) ?_
        refine (AllReadyH.cons rfl (fun K hK => ?_) AllReadyH.nil)
        have cx := HN.out.cells.2.2.2
        have fx := HN.out.froz 3
        go_simp
        clear cx fx
        refine hK.out _ _ ?_ (fun hHeld => ?_)
        · (try dsimp only)
          try trivial
        clear hK K
        (try simp only [Act.put, List.setIfInBounds_toArray, List.set_cons_zero, List.set_cons_succ])
        have HN := Lib.hid (HN.out.put 3 (.slice Ak ((ksM ys).length + 1) ck) (bP' := .slice none 0 0) (bL' := vL) (bK' := (.slice Ak ((ksM ys).length + 1) ck)) rfl)
        generalize W.setCell ⟨w.heap.size + 1, 3, none⟩ (.slice Ak ((ksM ys).length + 1) ck) = V at HN hHeld ⊢
        rename World => W
        refine wpAnyH_take (i := 15) (oi := ⟨some 67, _, _, _, _, _⟩) (v := ?_) rfl (by kernel_rfl) (by kernel_rfl) (by kernel_rfl) (fun _ _ _ h => h) (Or.inl ⟨by simp [Region.wanted, yielded, undef], ?_⟩) (by assumption) ?_
        rotate_left
        · ((intro w hSw; (try dsimp only at hSw); go_simp) <;> with_reducible rfl)
        (try simp only [Act.put, List.setIfInBounds_toArray, List.set_cons_zero, List.set_cons_succ])
        refine wpAnyH_ready (rs := [16]) (by kernel_rfl) (by simp) ?_
        refine (AllReadyH.cons rfl (fun K hK => ?_) AllReadyH.nil)
        have cx := HN.out.cells.2.2.1
        have fx := HN.out.froz 2
        go_simp
        clear cx fx
        refine hK.out _ _ ?_ (fun hHeld => ?_)
        · (try dsimp only)
          try trivial
        clear hK K
        (try simp only [Act.put, List.setIfInBounds_toArray, List.set_cons_zero, List.set_cons_succ])
        have HN := Lib.hid (HN.out.put 2 (.slice Al ((lsM ys).length + 1) cl) (bP' := .slice none 0 0) (bL' := (.slice Al ((lsM ys).length + 1) cl)) (bK' := (.slice Ak ((ksM ys).length + 1) ck)) rfl)
        generalize W.setCell ⟨w.heap.size + 1, 2, none⟩ (.slice Al ((lsM ys).length + 1) cl) = V at HN hHeld ⊢
        rename World => W
        refine wpAnyH_done (by kernel_rfl) ?_ _
        refine NoPanic.normal ?_
        focus
          go_wp2_with fail
          go_roundw
          case rel =>
            refine ⟨k + 1, (.slice Al ((lsM ys).length + 1) cl), (.slice Ak ((ksM ys).length + 1) ck), by omega, by go_num, ?_, ?_⟩
            · rw [HTK.out, List.any_append, HYE.out]; rfl
            · rw [HTK.out, lsM_snoc, ksM_snoc]
              exact HN.out
          case measure => simp [intOf]; omega
        go_simp
        refine hK.out _ _ ?_ (fun hHeld => ?_)
        · (try dsimp only)
          try trivial
        clear hK K
        (try simp only [Act.put, List.setIfInBounds_toArray, List.set_cons_zero, List.set_cons_succ])
        obtain ⟨V, hV⟩ : ∃ V : World, V = W.alloc (.cells #[.string (bs r)] 9) := ⟨_, rfl⟩
        rw [← hV]
        have hbW : Below W.heap.size W V := by rw [hV]; exact (Below.refl _ _).alloc (Nat.le_refl _) _
        have HFL : Hid (V.heap[W.heap.size]? = some (.cells #[.string (bs r)] 9 (0, 0))) := by rw [hV]; exact heap_alloc_new _ _
        have HN := Lib.hid (HN.out.old hbW)
        clear hV hbW
        generalize W.heap.size = gpos at HFL
        rename World => W
        refine wpAnyH_ready (rs := [1, 5, 8]) (by kernel_rfl) (by simp) ?_
        refine (AllReadyH.cons (o := ⟨some 54, _, _, _, _, _⟩) rfl (fun K hK => ?_) (AllReadyH.cons (o := ⟨some 58, _, _, _, _, _⟩) rfl (fun K hK => ?_) (AllReadyH.cons (o := ⟨some 61, _, _, _, _, _⟩) rfl (fun K hK => ?_) AllReadyH.nil)))
        have cx := HN.out.cells.2.2.2
        go_simp
        clear cx
        refine hK.out _ _ ?_ (fun hHeld => ?_)
        · (try dsimp only)
          try trivial
        clear hK K
        (try simp only [Act.put, List.setIfInBounds_toArray, List.set_cons_zero, List.set_cons_succ])
        refine wpAnyH_ready (rs := [5, 8]) (by kernel_rfl) (by simp) ?_
        refine (AllReadyH.cons (o := ⟨some 58, _, _, _, _, _⟩) rfl (fun K hK => ?_) (AllReadyH.cons (o := ⟨some 61, _, _, _, _, _⟩) rfl (fun K hK => ?_) AllReadyH.nil))
        go_simp
        refine hK.out _ _ ?_ (fun hHeld => ?_)
        · (try dsimp only)
          try trivial
        clear hK K
        (try simp only [Act.put, List.setIfInBounds_toArray, List.set_cons_zero, List.set_cons_succ])
        obtain ⟨V, hV⟩ : ∃ V : World, V = W.alloc (.cells #[.int .i64 (a.toNat : Int)] 3) := ⟨_, rfl⟩
        rw [← hV]
        have hbW : Below W.heap.size W V := by rw [hV]; exact (Below.refl _ _).alloc (Nat.le_refl _) _
        have HFI : Hid (V.heap[W.heap.size]? = some (.cells #[.int .i64 (a.toNat : Int)] 3 (0, 0))) := by rw [hV]; exact heap_alloc_new _ _
        have HFL := Lib.hid ((hbW.block _ (Array.getElem?_eq_some_iff.1 HFL.out).1).trans HFL.out)
        have HN := Lib.hid (HN.out.old hbW)
        clear hV hbW
        generalize W.heap.size = gpos at HFI
        rename World => W
        refine wpAnyH_ready (rs := [6, 8]) (by kernel_rfl) (by simp) ?_
        refine (AllReadyH.cons (o := ⟨some 59, _, _, _, _, _⟩) rfl (fun K hK => ?_) (AllReadyH.cons (o := ⟨some 61, _, _, _, _, _⟩) rfl (fun K hK => ?_) AllReadyH.nil))
        refine step_push_one elInt rfl _ _ rfl w.heap.size vK (ksM ys).length ((ksM ys).map ivi) rfl HN.out.k _ [ivi (a.toNat : Int)] HFI.out rfl rfl (by simp [Value.oneCell']) (by rw [ksM_len]; have := HYL.out; simp only [maxLen]; omega) (by rw [ksM_len]; have := HYL.out; omega) (Nat.le_of_lt HN.out.rl) ?_
        intro v6 V hp
        obtain ⟨Ak, ck, rfl, _⟩ := own_form hp.1
        refine hK.out _ _ ?_ (fun hHeld => ?_)
        · (try dsimp only)
          try trivial
        clear hK K
        (try simp only [Act.put, List.setIfInBounds_toArray, List.set_cons_zero, List.set_cons_succ])
        have HFL := Lib.hid ((hp.2.block _ (Array.getElem?_eq_some_iff.1 HFL.out).1 (fun e => own_ne_blk' HN.out.k HFL.out (by decide) e.symm)).trans HFL.out)
        have HN := Lib.hid (HN.out.pushK (z := (a.toNat : Int)) hp)
        clear hp
        rename World => W
        refine wpAnyH_ready (rs := [8]) (by kernel_rfl) (by simp) ?_
        refine (AllReadyH.cons (o := ⟨some 61, _, _, _, _, _⟩) rfl (fun K hK => ?_) AllReadyH.nil)
        have cx := HN.out.cells.2.2.1
        go_simp
        clear cx
        refine hK.out _ _ ?_ (fun hHeld => ?_)
        · (try dsimp only)
          try trivial
        clear hK K
        (try simp only [Act.put, List.setIfInBounds_toArray, List.set_cons_zero, List.set_cons_succ])
        refine wpAnyH_take (i := 13) (oi := ⟨some 66, _, _, _, _, _⟩) (v := ?_) rfl (by kernel_rfl) (by kernel_rfl) (by kernel_rfl) (fun _ _ _ h => h) (Or.inl ⟨by simp [Region.wanted, yielded, undef], ?_⟩) (by assumption) ?_
        rotate_left
        · ((intro w hSw; (try dsimp only at hSw); go_simp) <;> with_reducible rfl)
        (try simp only [Act.put, List.setIfInBounds_toArray, List.set_cons_zero, List.set_cons_succ])
        refine wpAnyH_ready (rs := [12]) (by kernel_rfl) (by simp) ?_
        refine (AllReadyH.cons (o := ⟨some 65, _, _, _, _, _⟩) rfl (fun K hK => ?_) AllReadyH.nil)
        refine step_push_one elStr rfl _ _ rfl w.heap.size vL (lsM ys).length ((lsM ys).map Value.string) rfl HN.out.s _ [.string (bs r)] HFL.out rfl rfl (by simp [Value.oneCell']) (by rw [lsM_len]; have := HYL.out; simp only [maxLen]; omega) (by rw [lsM_len]; have := HYL.out; omega) (Nat.le_of_lt HN.out.rl) ?_
        intro v7 V hp
        obtain ⟨Al, cl, rfl, _⟩ := own_form hp.1
        refine hK.out _ _ ?_ (fun hHeld => ?_)
        · (try dsimp only)
          try trivial
        clear hK K
        (try simp only [Act.put, List.setIfInBounds_toArray, List.set_cons_zero, List.set_cons_succ])
        have HN := Lib.hid (HN.out.pushL (x := bs r) hp)
        clear hp
        rename World => W
        refine wpAnyH_ready (rs := [14]) (by kernel_rfl) (by simp) ?_
        refine (AllReadyH.cons rfl (fun K hK => ?_) AllReadyH.nil)
        have cx := HN.out.cells.2.2.2
        have fx := HN.out.froz 3
        go_simp
        clear cx fx
        refine hK.out _ _ ?_ (fun hHeld => ?_)
        · (try dsimp only)
          try trivial
        clear hK K
        (try simp only [Act.put, List.setIfInBounds_toArray, List.set_cons_zero, List.set_cons_succ])
        have HN := Lib.hid (HN.out.put 3 (.slice Ak ((ksM ys).length + 1) ck) (bP' := .slice none 0 0) (bL' := vL) (bK' := (.slice Ak ((ksM ys).length + 1) ck)) rfl)
        generalize W.setCell ⟨w.heap.size + 1, 3, none⟩ (.slice Ak ((ksM ys).length + 1) ck) = V at HN hHeld ⊢
        rename World => W
        refine wpAnyH_take (i := 15) (oi := ⟨some 67, _, _, _, _, _⟩) (v := ?_) rfl (by kernel_rfl) (by kernel_rfl) (by kernel_rfl) (fun _ _ _ h => h) (Or.inl ⟨by simp [Region.wanted, yielded, undef], ?_⟩) (by assumption) ?_
        rotate_left
        · ((intro w hSw; (try dsimp only at hSw); go_simp) <;> with_reducible rfl)
        (try simp only [Act.put, List.setIfInBounds_toArray, List.set_cons_zero, List.set_cons_succ])
        refine wpAnyH_ready (rs := [16]) (by kernel_rfl) (by simp) ?_
        refine (AllReadyH.cons rfl (fun K hK => ?_) AllReadyH.nil)
        have cx := HN.out.cells.2.2.1
        have fx := HN.out.froz 2
        go_simp
        clear cx fx
        refine hK.out _ _ ?_ (fun hHeld => ?_)
        · (try dsimp only)
          try trivial
        clear hK K
        (try simp only [Act.put, List.setIfInBounds_toArray, List.set_cons_zero, List.set_cons_succ])
        have HN := Lib.hid (HN.out.put 2 (.slice Al ((lsM ys).length + 1) cl) (bP' := .slice none 0 0) (bL' := (.slice Al ((lsM ys).length + 1) cl)) (bK' := (.slice Ak ((ksM ys).length + 1) ck)) rfl)
        generalize W.setCell ⟨w.heap.size + 1, 2, none⟩ (.slice Al ((lsM ys).length + 1) cl) = V at HN hHeld ⊢
        rename World => W
        refine wpAnyH_done (by kernel_rfl) ?_ _
        refine NoPanic.normal ?_
        focus
          go_wp2_with fail
          go_roundw
          case rel =>
            refine ⟨k + 1, (.slice Al ((lsM ys).length + 1) cl), (.slice Ak ((ksM ys).length + 1) ck), by omega, by go_num, ?_, ?_⟩
            · rw [HTK.out, List.any_append, HYE.out]; rfl
            · rw [HTK.out, lsM_snoc, ksM_snoc]
              exact HN.out
          case measure => simp [intOf]; omega
        have cx := HN.out.cells.2.2.1
        go_simp
        clear cx
        refine hK.out _ _ ?_ (fun hHeld => ?_)
        · (try dsimp only)
          try trivial
        clear hK K
        (try simp only [Act.put, List.setIfInBounds_toArray, List.set_cons_zero, List.set_cons_succ])
        refine wpAnyH_ready (rs := [6]) (by kernel_rfl) (by simp) ?_
        refine (AllReadyH.cons (o := ⟨some 59, _, _, _, _, _⟩) rfl (fun K hK => ?_) AllReadyH.nil)
        refine step_push_one elInt rfl _ _ rfl w.heap.size vK (ksM ys).length ((ksM ys).map ivi) rfl HN.out.k _ [ivi (a.toNat : Int)] HFI.out rfl rfl (by simp [Value.oneCell']) (by rw [ksM_len]; have := HYL.out; simp only [maxLen]; omega) (by rw [ksM_len]; have := HYL.out; omega) (Nat.le_of_lt HN.out.rl) ?_
        intro v6 V hp
        obtain ⟨Ak, ck, rfl, _⟩ := own_form hp.1
        refine hK.out _ _ ?_ (fun hHeld => ?_)
        · (try dsimp only)
          try trivial
        clear hK K
        (try simp only [Act.put, List.setIfInBounds_toArray, List.set_cons_zero, List.set_cons_succ])
        have HFL := Lib.hid ((hp.2.block _ (Array.getElem?_eq_some_iff.1 HFL.out).1 (fun e => own_ne_blk' HN.out.k HFL.out (by decide) e.symm)).trans HFL.out)
        have HN := Lib.hid (HN.out.pushK (z := (a.toNat : Int)) hp)
        clear hp
        rename World => W
        refine wpAnyH_take (i := 13) (oi := ⟨some 66, _, _, _, _, _⟩) (v := ?_) rfl (by kernel_rfl) (by kernel_rfl) (by kernel_rfl) (fun _ _ _ h => h) (Or.inl ⟨by simp [Region.wanted, yielded, undef], ?_⟩) (by assumption) ?_
        rotate_left
        · ((intro w hSw; (try dsimp only at hSw); go_simp) <;> with_reducible rfl)
        (try simp only [Act.put, List.setIfInBounds_toArray, List.set_cons_zero, List.set_cons_succ])
        refine wpAnyH_ready (rs := [12]) (by kernel_rfl) (by simp) ?_
        refine (AllReadyH.cons (o := ⟨some 65, _, _, _, _, _⟩) rfl (fun K hK => ?_) AllReadyH.nil)
        refine step_push_one elStr rfl _ _ rfl w.heap.size vL (lsM ys).length ((lsM ys).map Value.string) rfl HN.out.s _ [.string (bs r)] HFL.out rfl rfl (by simp [Value.oneCell']) (by rw [lsM_len]; have := HYL.out; simp only [maxLen]; omega) (by rw [lsM_len]; have := HYL.out; omega) (Nat.le_of_lt HN.out.rl) ?_
        intro v7 V hp
        obtain ⟨Al, cl, rfl, _⟩ := own_form hp.1
        refine hK.out _ _ ?_ (fun hHeld => ?_)
        · (try dsimp only)
          try trivial
        clear hK K
        (try simp only [Act.put, List.setIfInBounds_toArray, List.set_cons_zero, List.set_cons_succ])
        have HN := Lib.hid (HN.out.pushL (x := bs r) hp)
        clear hp
        rename World => W
        refine wpAnyH_ready (rs := [14]) (by kernel_rfl) (by simp) ?_
        refine (AllReadyH.cons rfl (fun K hK => ?_) AllReadyH.nil)
        have cx := HN.out.cells.2.2.2
        have fx := HN.out.froz 3
        go_simp
        clear cx fx
        refine hK.out _ _ ?_ (fun hHeld => ?_)
        · (try dsimp only)
          try trivial
        clear hK K
        (try simp only [Act.put, List.setIfInBounds_toArray, List.set_cons_zero, List.set_cons_succ])
        have HN := Lib.hid (HN.out.put 3 (.slice Ak ((ksM ys).length + 1) ck) (bP' := .slice none 0 0) (bL' := vL) (bK' := (.slice Ak ((ksM ys).length + 1) ck)) rfl)
        generalize W.setCell ⟨w.heap.size + 1, 3, none⟩ (.slice Ak ((ksM ys).length + 1) ck) = V at HN hHeld ⊢
        rename World => W
        refine wpAnyH_take (i := 15) (oi := ⟨some 67, _, _, _, _, _⟩) (v := ?_) rfl (by kernel_rfl) (by kernel_rfl) (by kernel_rfl) (fun _ _ _ h => h) (Or.inl ⟨by simp [Region.wanted, yielded, undef], ?_⟩) (by assumption) ?_
        rotate_left
        · ((intro w hSw; (try dsimp only at hSw); go_simp) <;> with_reducible rfl)
        (try simp only [Act.put, List.setIfInBounds_toArray, List.set_cons_zero, List.set_cons_succ])
        refine wpAnyH_ready (rs := [16]) (by kernel_rfl) (by simp) ?_
        refine (AllReadyH.cons rfl (fun K hK => ?_) AllReadyH.nil)
        have cx := HN.out.cells.2.2.1
        have fx := HN.out.froz 2
        go_simp
        clear cx fx
        refine hK.out _ _ ?_ (fun hHeld => ?_)
        · (try dsimp only)
          try trivial
        clear hK K
        (try simp only [Act.put, List.setIfInBounds_toArray, List.set_cons_zero, List.set_cons_succ])
        have HN := Lib.hid (HN.out.put 2 (.slice Al ((lsM ys).length + 1) cl) (bP' := .slice none 0 0) (bL' := (.slice Al ((lsM ys).length + 1) cl)) (bK' := (.slice Ak ((ksM ys).length + 1) ck)) rfl)
        generalize W.setCell ⟨w.heap.size + 1, 2, none⟩ (.slice Al ((lsM ys).length + 1) cl) = V at HN hHeld ⊢
        rename World => W
        refine wpAnyH_done (by kernel_rfl) ?_ _
        refine NoPanic.normal ?_
        focus
          go_wp2_with fail
          go_roundw
          case rel =>
            refine ⟨k + 1, (.slice Al ((lsM ys).length + 1) cl), (.slice Ak ((ksM ys).length + 1) ck), by omega, by go_num, ?_, ?_⟩
            · rw [HTK.out, List.any_append, HYE.out]; rfl
            · rw [HTK.out, lsM_snoc, ksM_snoc]
              exact HN.out
          case measure => simp [intOf]; omega
        have cx := HN.out.cells.2.2.1
        go_simp
        clear cx
        refine hK.out _ _ ?_ (fun hHeld => ?_)
        · (try dsimp only)
          try trivial
        clear hK K
        (try simp only [Act.put, List.setIfInBounds_toArray, List.set_cons_zero, List.set_cons_succ])
        refine wpAnyH_ready (rs := [5]) (by kernel_rfl) (by simp) ?_
        refine (AllReadyH.cons (o := ⟨some 58, _, _, _, _, _⟩) rfl (fun K hK => ?_) AllReadyH.nil)
        go_simp
        refine hK.out _ _ ?_ (fun hHeld => ?_)
        · (try dsimp only)
          try trivial
        clear hK K
        (try simp only [Act.put, List.setIfInBounds_toArray, List.set_cons_zero, List.set_cons_succ])
        obtain ⟨V, hV⟩ : ∃ V : World, V = W.alloc (.cells #[.int .i64 (a.toNat : Int)] 3) := ⟨_, rfl⟩
        rw [← hV]
        have hbW : Below W.heap.size W V := by rw [hV]; exact (Below.refl _ _).alloc (Nat.le_refl _) _
        have HFI : Hid (V.heap[W.heap.size]? = some (.cells #[.int .i64 (a.toNat : Int)] 3 (0, 0))) := by rw [hV]; exact heap_alloc_new _ _
        have HFL := Lib.hid ((hbW.block _ (Array.getElem?_eq_some_iff.1 HFL.out).1).trans HFL.out)
        have HN := Lib.hid (HN.out.old hbW)
        clear hV hbW
        generalize W.heap.size = gpos at HFI
        rename World => W
        refine wpAnyH_ready (rs := [6]) (by kernel_rfl) (by simp) ?_
        refine (AllReadyH.cons (o := ⟨some 59, _, _, _, _, _⟩) rfl (fun K hK => ?_) AllReadyH.nil)
        refine step_push_one elInt rfl _ _ rfl w.heap.size vK (ksM ys).length ((ksM ys).map ivi) rfl HN.out.k _ [ivi (a.toNat : Int)] HFI.out rfl rfl (by simp [Value.oneCell']) (by rw [ksM_len]; have := HYL.out; simp only [maxLen]; omega) (by rw [ksM_len]; have := HYL.out; omega) (Nat.le_of_lt HN.out.rl) ?_
        intro v6 V hp
        obtain ⟨Ak, ck, rfl, _⟩ := own_form hp.1
        refine hK.out _ _ ?_ (fun hHeld => ?_)
        · (try dsimp only)
          try trivial
        clear hK K
        (try simp only [Act.put, List.setIfInBounds_toArray, List.set_cons_zero, List.set_cons_succ])
        have HFL := Lib.hid ((hp.2.block _ (Array.getElem?_eq_some_iff.1 HFL.out).1 (fun e => own_ne_blk' HN.out.k HFL.out (by decide) e.symm)).trans HFL.out)
        have HN := Lib.hid (HN.out.pushK (z := (a.toNat : Int)) hp)
        clear hp
        rename World => W
        refine wpAnyH_take (i := 13) (oi := ⟨some 66, _, _, _, _, _⟩) (v := ?_) rfl (by kernel_rfl) (by kernel_rfl) (by kernel_rfl) (fun _ _ _ h => h) (Or.inl ⟨by simp [Region.wanted, yielded, undef], ?_⟩) (by assumption) ?_
        rotate_left
        · ((intro w hSw; (try dsimp only at hSw); go_simp) <;> with_reducible rfl)
        (try simp only [Act.put, List.setIfInBounds_toArray, List.set_cons_zero, List.set_cons_succ])
        refine wpAnyH_ready (rs := [12]) (by kernel_rfl) (by simp) ?_
        refine (AllReadyH.cons (o := ⟨some 65, _, _, _, _, _⟩) rfl (fun K hK => ?_) AllReadyH.nil)
        refine step_push_one elStr rfl _ _ rfl w.heap.size vL (lsM ys).length ((lsM ys).map Value.string) rfl HN.out.s _ [.string (bs r)] HFL.out rfl rfl (by simp [Value.oneCell']) (by rw [lsM_len]; have := HYL.out; simp only [maxLen]; omega) (by rw [lsM_len]; have := HYL.out; omega) (Nat.le_of_lt HN.out.rl) ?_
        intro v7 V hp
        obtain ⟨Al, cl, rfl, _⟩ := own_form hp.1
        refine hK.out _ _ ?_ (fun hHeld => ?_)
        · (try dsimp only)
          try trivial
        clear hK K
        (try simp only [Act.put, List.setIfInBounds_toArray, List.set_cons_zero, List.set_cons_succ])
        have HN := Lib.hid (HN.out.pushL (x := bs r) hp)
        clear hp
        rename World => W
        refine wpAnyH_ready (rs := [14]) (by kernel_rfl) (by simp) ?_
        refine (AllReadyH.cons rfl (fun K hK => ?_) AllReadyH.nil)
        have cx := HN.out.cells.2.2.2
        have fx := HN.out.froz 3
        go_simp
        clear cx fx
        refine hK.out _ _ ?_ (fun hHeld => ?_)
        · (try dsimp only)
          try trivial
        clear hK K
        (try simp only [Act.put, List.setIfInBounds_toArray, List.set_cons_zero, List.set_cons_succ])
        have HN := Lib.hid (HN.out.put 3 (.slice Ak ((ksM ys).length + 1) ck) (bP' := .slice none 0 0) (bL' := vL) (bK' := (.slice Ak ((ksM ys).length + 1) ck)) rfl)
        generalize W.setCell ⟨w.heap.size + 1, 3, none⟩ (.slice Ak ((ksM ys).length + 1) ck) = V at HN hHeld ⊢
        rename World => W
        refine wpAnyH_take (i := 15) (oi := ⟨some 67, _, _, _, _, _⟩) (v := ?_) rfl (by kernel_rfl) (by kernel_rfl) (by kernel_rfl) (fun _ _ _ h => h) (Or.inl ⟨by simp [Region.wanted, yielded, undef], ?_⟩) (by assumption) ?_
        rotate_left
        · ((intro w hSw; (try dsimp only at hSw); go_simp) <;> with_reducible rfl)
        (try simp only [Act.put, List.setIfInBounds_toArray, List.set_cons_zero, List.set_cons_succ])
        refine wpAnyH_ready (rs := [16]) (by kernel_rfl) (by simp) ?_
        refine (AllReadyH.cons rfl (fun K hK => ?_) AllReadyH.nil)
        have cx := HN.out.cells.2.2.1
        have fx := HN.out.froz 2
        go_simp
        clear cx fx
        refine hK.out _ _ ?_ (fun hHeld => ?_)
        · (try dsimp only)
          try trivial
        clear hK K
        (try simp only [Act.put, List.setIfInBounds_toArray, List.set_cons_zero, List.set_cons_succ])
        have HN := Lib.hid (HN.out.put 2 (.slice Al ((lsM ys).length + 1) cl) (bP' := .slice none 0 0) (bL' := (.slice Al ((lsM ys).length + 1) cl)) (bK' := (.slice Ak ((ksM ys).length + 1) ck)) rfl)
        generalize W.setCell ⟨w.heap.size + 1, 2, none⟩ (.slice Al ((lsM ys).length + 1) cl) = V at HN hHeld ⊢
        rename World => W
        refine wpAnyH_done (by kernel_rfl) ?_ _
        refine NoPanic.normal ?_
        focus
          go_wp2_with fail
          go_roundw
          case rel =>
            refine ⟨k + 1, (.slice Al ((lsM ys).length + 1) cl), (.slice Ak ((ksM ys).length + 1) ck), by omega, by go_num, ?_, ?_⟩
            · rw [HTK.out, List.any_append, HYE.out]; rfl
            · rw [HTK.out, lsM_snoc, ksM_snoc]
              exact HN.out
          case measure => simp [intOf]; omega
        go_simp
        refine hK.out _ _ ?_ (fun hHeld => ?_)
        · (try dsimp only)
          try trivial
        clear hK K
        (try simp only [Act.put, List.setIfInBounds_toArray, List.set_cons_zero, List.set_cons_succ])
        obtain ⟨V, hV⟩ : ∃ V : World, V = W.alloc (.cells #[.int .i64 (a.toNat : Int)] 3) := ⟨_, rfl⟩
        rw [← hV]
        have hbW : Below W.heap.size W V := by rw [hV]; exact (Below.refl _ _).alloc (Nat.le_refl _) _
        have HFI : Hid (V.heap[W.heap.size]? = some (.cells #[.int .i64 (a.toNat : Int)] 3 (0, 0))) := by rw [hV]; exact heap_alloc_new _ _
        have HFL := Lib.hid ((hbW.block _ (Array.getElem?_eq_some_iff.1 HFL.out).1).trans HFL.out)
        have HN := Lib.hid (HN.out.old hbW)
        clear hV hbW
        generalize W.heap.size = gpos at HFI
        rename World => W
        refine wpAnyH_ready (rs := [1, 8]) (by kernel_rfl) (by simp) ?_
        refine (AllReadyH.cons (o := ⟨some 54, _, _, _, _, _⟩) rfl (fun K hK => ?_) (AllReadyH.cons (o := ⟨some 61, _, _, _, _, _⟩) rfl (fun K hK => ?_) AllReadyH.nil))
        have cx := HN.out.cells.2.2.2
        go_simp
        clear cx
        refine hK.out _ _ ?_ (fun hHeld => ?_)
        · (try dsimp only)
          try trivial
        clear hK K
        (try simp only [Act.put, List.setIfInBounds_toArray, List.set_cons_zero, List.set_cons_succ])
        refine wpAnyH_ready (rs := [6, 8]) (by kernel_rfl) (by simp) ?_
        refine (AllReadyH.cons (o := ⟨some 59, _, _, _, _, _⟩) rfl (fun K hK => ?_) (AllReadyH.cons (o := ⟨some 61, _, _, _, _, _⟩) rfl (fun K hK => ?_) AllReadyH.nil))
        refine step_push_one elInt rfl _ _ rfl w.heap.size vK (ksM ys).length ((ksM ys).map ivi) rfl HN.out.k _ [ivi (a.toNat : Int)] HFI.out rfl rfl (by simp [Value.oneCell']) (by rw [ksM_len]; have := HYL.out; simp only [maxLen]; omega) (by rw [ksM_len]; have := HYL.out; omega) (Nat.le_of_lt HN.out.rl) ?_
        intro v6 V hp
        obtain ⟨Ak, ck, rfl, _⟩ := own_form hp.1
        refine hK.out _ _ ?_ (fun hHeld => ?_)
        · (try dsimp only)
          try trivial
        clear hK K
        (try simp only [Act.put, List.setIfInBounds_toArray, List.set_cons_zero, List.set_cons_succ])
        have HFL := Lib.hid ((hp.2.block _ (Array.getElem?_eq_some_iff.1 HFL.out).1 (fun e => own_ne_blk' HN.out.k HFL.out (by decide) e.symm)).trans HFL.out)
        have HN := Lib.hid (HN.out.pushK (z := (a.toNat : Int)) hp)
        clear hp
        rename World => W
        refine wpAnyH_ready (rs := [8]) (by kernel_rfl) (by simp) ?_
        refine (AllReadyH.cons (o := ⟨some 61, _, _, _, _, _⟩) rfl (fun K hK => ?_) AllReadyH.nil)
        have cx := HN.out.cells.2.2.1
        go_simp
        clear cx
        refine hK.out _ _ ?_ (fun hHeld => ?_)
        · (try dsimp only)
          try trivial
        clear hK K
        (try simp only [Act.put, List.setIfInBounds_toArray, List.set_cons_zero, List.set_cons_succ])
        refine wpAnyH_take (i := 13) (oi := ⟨some 66, _, _, _, _, _⟩) (v := ?_) rfl (by kernel_rfl) (by kernel_rfl) (by kernel_rfl) (fun _ _ _ h => h) (Or.inl ⟨by simp [Region.wanted, yielded, undef], ?_⟩) (by assumption) ?_
        rotate_left
        · ((intro w hSw; (try dsimp only at hSw); go_simp) <;> with_reducible rfl)
        (try simp only [Act.put, List.setIfInBounds_toArray, List.set_cons_zero, List.set_cons_succ])
        refine wpAnyH_ready (rs := [12]) (by kernel_rfl) (by simp) ?_
        refine (AllReadyH.cons (o := ⟨some 65, _, _, _, _, _⟩) rfl (fun K hK => ?_) AllReadyH.nil)
        refine step_push_one elStr rfl _ _ rfl w.heap.size vL (lsM ys).length ((lsM ys).map Value.string) rfl HN.out.s _ [.string (bs r)] HFL.out rfl rfl (by simp [Value.oneCell']) (by rw [lsM_len]; have := HYL.out; simp only [maxLen]; omega) (by rw [lsM_len]; have := HYL.out; omega) (Nat.le_of_lt HN.out.rl) ?_
        intro v7 V hp
        obtain ⟨Al, cl, rfl, _⟩ := own_form hp.1
        refine hK.out _ _ ?_ (fun hHeld => ?_)
        · (try dsimp only)
          try trivial
        clear hK K
        (try simp only [Act.put, List.setIfInBounds_toArray, List.set_cons_zero, List.set_cons_succ])
        have HN := Lib.hid (HN.out.pushL (x := bs r) hp)
        clear hp
        rename World => W
        refine wpAnyH_ready (rs := [14]) (by kernel_rfl) (by simp) ?_
        refine (AllReadyH.cons rfl (fun K hK => ?_) AllReadyH.nil)
        have cx := HN.out.cells.2.2.2
        have fx := HN.out.froz 3
        go_simp
        clear cx fx
        refine hK.out _ _ ?_ (fun hHeld => ?_)
        · (try dsimp only)
          try trivial
        clear hK K
        (try simp only [Act.put, List.setIfInBounds_toArray, List.set_cons_zero, List.set_cons_succ])
        have HN := Lib.hid (HN.out.put 3 (.slice Ak ((ksM ys).length + 1) ck) (bP' := .slice none 0 0) (bL' := vL) (bK' := (.slice Ak ((ksM ys).length + 1) ck)) rfl)
        generalize W.setCell ⟨w.heap.size + 1, 3, none⟩ (.slice Ak ((ksM ys).length + 1) ck) = V at HN hHeld ⊢
        rename World => W
        refine wpAnyH_take (i := 15) (oi := ⟨some 67, _, _, _, _, _⟩) (v := ?_) rfl (by kernel_rfl) (by kernel_rfl) (by kernel_rfl) (fun _ _ _ h => h) (Or.inl ⟨by simp [Region.wanted, yielded, undef], ?_⟩) (by assumption) ?_
        rotate_left
        · ((intro w hSw; (try dsimp only at hSw); go_simp) <;> with_reducible rfl)
        (try simp only [Act.put, List.setIfInBounds_toArray, List.set_cons_zero, List.set_cons_succ])
        refine wpAnyH_ready (rs := [16]) (by kernel_rfl) (by simp) ?_
        refine (AllReadyH.cons rfl (fun K hK => ?_) AllReadyH.nil)
        have cx := HN.out.cells.2.2.1
        have fx := HN.out.froz 2
        go_simp
        clear cx fx
        refine hK.out _ _ ?_ (fun hHeld => ?_)
        · (try dsimp only)
          try trivial
        clear hK K
        (try simp only [Act.put, List.setIfInBounds_toArray, List.set_cons_zero, List.set_cons_succ])
        have HN := Lib.hid (HN.out.put 2 (.slice Al ((lsM ys).length + 1) cl) (bP' := .slice none 0 0) (bL' := (.slice Al ((lsM ys).length + 1) cl)) (bK' := (.slice Ak ((ksM ys).length + 1) ck)) rfl)
        generalize W.setCell ⟨w.heap.size + 1, 2, none⟩ (.slice Al ((lsM ys).length + 1) cl) = V at HN hHeld ⊢
        rename World => W
        refine wpAnyH_done (by kernel_rfl) ?_ _
        refine NoPanic.normal ?_
        focus
          go_wp2_with fail
          go_roundw
          case rel =>
            refine ⟨k + 1, (.slice Al ((lsM ys).length + 1) cl), (.slice Ak ((ksM ys).length + 1) ck), by omega, by go_num, ?_, ?_⟩
            · rw [HTK.out, List.any_append, HYE.out]; rfl
            · rw [HTK.out, lsM_snoc, ksM_snoc]
              exact HN.out
          case measure => simp [intOf]; omega
        have cx := HN.out.cells.2.2.1
        go_simp
        clear cx
        refine hK.out _ _ ?_ (fun hHeld => ?_)
        · (try dsimp only)
          try trivial
        clear hK K
        (try simp only [Act.put, List.setIfInBounds_toArray, List.set_cons_zero, List.set_cons_succ])
        refine wpAnyH_ready (rs := [6]) (by kernel_rfl) (by simp) ?_
        refine (AllReadyH.cons (o := ⟨some 59, _, _, _, _, _⟩) rfl (fun K hK => ?_) AllReadyH.nil)
        refine step_push_one elInt rfl _ _ rfl w.heap.size vK (ksM ys).length ((ksM ys).map ivi) rfl HN.out.k _ [ivi (a.toNat : Int)] HFI.out rfl rfl (by simp [Value.oneCell']) (by rw [ksM_len]; have := HYL.out; simp only [maxLen]; omega) (by rw [ksM_len]; have := HYL.out; omega) (Nat.le_of_lt HN.out.rl) ?_
        intro v6 V hp
        obtain ⟨Ak, ck, rfl, _⟩ := own_form hp.1
        refine hK.out _ _ ?_ (fun hHeld => ?_)
        · (try dsimp only)
          try trivial
        clear hK K
        (try simp only [Act.put, List.setIfInBounds_toArray, List.set_cons_zero, List.set_cons_succ])
        have HFL := Lib.hid ((hp.2.block _ (Array.getElem?_eq_some_iff.1 HFL.out).1 (fun e => own_ne_blk' HN.out.k HFL.out (by decide) e.symm)).trans HFL.out)
        have HN := Lib.hid (HN.out.pushK (z := (a.toNat : Int)) hp)
        clear hp
        rename World => W
        refine wpAnyH_take (i := 13) (oi := ⟨some 66, _, _, _, _, _⟩) (v := ?_) rfl (by kernel_rfl) (by kernel_rfl) (by kernel_rfl) (fun _ _ _ h => h) (Or.inl ⟨by simp [Region.wanted, yielded, undef], ?_⟩) (by assumption) ?_
        rotate_left
        · ((intro w hSw; (try dsimp only at hSw); go_simp) <;> with_reducible rfl)
        (try simp only [Act.put, List.setIfInBounds_toArray, List.set_cons_zero, List.set_cons_succ])
        refine wpAnyH_ready (rs := [12]) (by kernel_rfl) (by simp) ?_
        refine (AllReadyH.cons (o := ⟨some 65, _, _, _, _, _⟩) rfl (fun K hK => ?_) AllReadyH.nil)
        refine step_push_one elStr rfl _ _ rfl w.heap.size vL (lsM ys).length ((lsM ys).map Value.string) rfl HN.out.s _ [.string (bs r)] HFL.out rfl rfl (by simp [Value.oneCell']) (by rw [lsM_len]; have := HYL.out; simp only [maxLen]; omega) (by rw [lsM_len]; have := HYL.out; omega) (Nat.le_of_lt HN.out.rl) ?_
        intro v7 V hp
        obtain ⟨Al, cl, rfl, _⟩ := own_form hp.1
        refine hK.out _ _ ?_ (fun hHeld => ?_)
        · (try dsimp only)
          try trivial
        clear hK K
        (try simp only [Act.put, List.setIfInBounds_toArray, List.set_cons_zero, List.set_cons_succ])
        have HN := Lib.hid (HN.out.pushL (x := bs r) hp)
        clear hp
        rename World => W
        refine wpAnyH_ready (rs := [14]) (by kernel_rfl) (by simp) ?_
        refine (AllReadyH.cons rfl (fun K hK => ?_) AllReadyH.nil)
        have cx := HN.out.cells.2.2.2
        have fx := HN.out.froz 3
        go_simp
        clear cx fx
        refine hK.out _ _ ?_ (fun hHeld => ?_)
        · (try dsimp only)
          try trivial
        clear hK K
        (try simp only [Act.put, List.setIfInBounds_toArray, List.set_cons_zero, List.set_cons_succ])
        have HN := Lib.hid (HN.out.put 3 (.slice Ak ((ksM ys).length + 1) ck) (bP' := .slice none 0 0) (bL' := vL) (bK' := (.slice Ak ((ksM ys).length + 1) ck)) rfl)
        generalize W.setCell ⟨w.heap.size + 1, 3, none⟩ (.slice Ak ((ksM ys).length + 1) ck) = V at HN hHeld ⊢
        rename World => W
        refine wpAnyH_take (i := 15) (oi := ⟨some 67, _, _, _, _, _⟩) (v := ?_) rfl (by kernel_rfl) (by kernel_rfl) (by kernel_rfl) (fun _ _ _ h => h) (Or.inl ⟨by simp [Region.wanted, yielded, undef], ?_⟩) (by assumption) ?_
        rotate_left
        · ((intro w hSw; (try dsimp only at hSw); go_simp) <;> with_reducible rfl)
        (try simp only [Act.put, List.setIfInBounds_toArray, List.set_cons_zero, List.set_cons_succ])
        refine wpAnyH_ready (rs := [16]) (by kernel_rfl) (by simp) ?_
        refine (AllReadyH.cons rfl (fun K hK => ?_) AllReadyH.nil)
        have cx := HN.out.cells.2.2.1
        have fx := HN.out.froz 2
        go_simp
        clear cx fx
        refine hK.out _ _ ?_ (fun hHeld => ?_)
        · (try dsimp only)
          try trivial
        clear hK K
        (try simp only [Act.put, List.setIfInBounds_toArray, List.set_cons_zero, List.set_cons_succ])
        have HN := Lib.hid (HN.out.put 2 (.slice Al ((lsM ys).length + 1) cl) (bP' := .slice none 0 0) (bL' := (.slice Al ((lsM ys).length + 1) cl)) (bK' := (.slice Ak ((ksM ys).length + 1) ck)) rfl)
        generalize W.setCell ⟨w.heap.size + 1, 2, none⟩ (.slice Al ((lsM ys).length + 1) cl) = V at HN hHeld ⊢
        rename World => W
        refine wpAnyH_done (by kernel_rfl) ?_ _
        refine NoPanic.normal ?_
        focus
          go_wp2_with fail
          go_roundw
          case rel =>
            refine ⟨k + 1, (.slice Al ((lsM ys).length + 1) cl), (.slice Ak ((ksM ys).length + 1) ck), by omega, by go_num, ?_, ?_⟩
            · rw [HTK.out, List.any_append, HYE.out]; rfl
            · rw [HTK.out, lsM_snoc, ksM_snoc]
              exact HN.out
          case measure => simp [intOf]; omega
        have cx := HN.out.cells.2.2.1
        go_simp
        clear cx
        refine hK.out _ _ ?_ (fun hHeld => ?_)
        · (try dsimp only)
          try trivial
        clear hK K
        (try simp only [Act.put, List.setIfInBounds_toArray, List.set_cons_zero, List.set_cons_succ])
        refine wpAnyH_ready (rs := [1]) (by kernel_rfl) (by simp) ?_
        refine (AllReadyH.cons (o := ⟨some 54, _, _, _, _, _⟩) rfl (fun K hK => ?_) AllReadyH.nil)
        have cx := HN.out.cells.2.2.2
        go_simp
        clear cx
        refine hK.out _ _ ?_ (fun hHeld => ?_)
        · (try dsimp only)
          try trivial
        clear hK K
        (try simp only [Act.put, List.setIfInBounds_toArray, List.set_cons_zero, List.set_cons_succ])
        refine wpAnyH_ready (rs := [6]) (by kernel_rfl) (by simp) ?_
        refine (AllReadyH.cons (o := ⟨some 59, _, _, _, _, _⟩) rfl (fun K hK => ?_) AllReadyH.nil)
        refine step_push_one elInt rfl _ _ rfl w.heap.size vK (ksM ys).length ((ksM ys).map ivi) rfl HN.out.k _ [ivi (a.toNat : Int)] HFI.out rfl rfl (by simp [Value.oneCell']) (by rw [ksM_len]; have := HYL.out; simp only [maxLen]; omega) (by rw [ksM_len]; have := HYL.out; omega) (Nat.le_of_lt HN.out.rl) ?_
        intro v6 V hp
        obtain ⟨Ak, ck, rfl, _⟩ := own_form hp.1
        refine hK.out _ _ ?_ (fun hHeld => ?_)
        · (try dsimp only)
          try trivial
        clear hK K
        (try simp only [Act.put, List.setIfInBounds_toArray, List.set_cons_zero, List.set_cons_succ])
        have HFL := Lib.hid ((hp.2.block _ (Array.getElem?_eq_some_iff.1 HFL.out).1 (fun e => own_ne_blk' HN.out.k HFL.out (by decide) e.symm)).trans HFL.out)
        have HN := Lib.hid (HN.out.pushK (z := (a.toNat : Int)) hp)
        clear hp
        rename World => W
        refine wpAnyH_take (i := 13) (oi := ⟨some 66, _, _, _, _, _⟩) (v := ?_) rfl (by kernel_rfl) (by kernel_rfl) (by kernel_rfl) (fun _ _ _ h => h) (Or.inl ⟨by simp [Region.wanted, yielded, undef], ?_⟩) (by assumption) ?_
        rotate_left
        · ((intro w hSw; (try dsimp only at hSw); go_simp) <;> with_reducible rfl)
        (try simp only [Act.put, List.setIfInBounds_toArray, List.set_cons_zero, List.set_cons_succ])
        refine wpAnyH_ready (rs := [12]) (by kernel_rfl) (by simp) ?_
        refine (AllReadyH.cons (o := ⟨some 65, _, _, _, _, _⟩) rfl (fun K hK => ?_) AllReadyH.nil)
        refine step_push_one elStr rfl _ _ rfl w.heap.size vL (lsM ys).length ((lsM ys).map Value.string) rfl HN.out.s _ [.string (bs r)] HFL.out rfl rfl (by simp [Value.oneCell']) (by rw [lsM_len]; have := HYL.out; simp only [maxLen]; omega) (by rw [lsM_len]; have := HYL.out; omega) (Nat.le_of_lt HN.out.rl) ?_
        intro v7 V hp
        obtain ⟨Al, cl, rfl, _⟩ := own_form hp.1
        refine hK.out _ _ ?_ (fun hHeld => ?_)
        · (try dsimp only)
          try trivial
        clear hK K
        (try simp only [Act.put, List.setIfInBounds_toArray, List.set_cons_zero, List.set_cons_succ])
        have HN := Lib.hid (HN.out.pushL (x := bs r) hp)
        clear hp
        rename World => W
        refine wpAnyH_ready (rs := [14]) (by kernel_rfl) (by simp) ?_
        refine (AllReadyH.cons rfl (fun K hK => ?_) AllReadyH.nil)
        have cx := HN.out.cells.2.2.2
        have fx := HN.out.froz 3
        go_simp
        clear cx fx
        refine hK.out _ _ ?_ (fun hHeld => ?_)
        · (try dsimp only)
          try trivial
        clear hK K
        (try simp only [Act.put, List.setIfInBounds_toArray, List.set_cons_zero, List.set_cons_succ])
        have HN := Lib.hid (HN.out.put 3 (.slice Ak ((ksM ys).length + 1) ck) (bP' := .slice none 0 0) (bL' := vL) (bK' := (.slice Ak ((ksM ys).length + 1) ck)) rfl)
        generalize W.setCell ⟨w.heap.size + 1, 3, none⟩ (.slice Ak ((ksM ys).length + 1) ck) = V at HN hHeld ⊢
        rename World => W
        refine wpAnyH_take (i := 15) (oi := ⟨some 67, _, _, _, _, _⟩) (v := ?_) rfl (by kernel_rfl) (by kernel_rfl) (by kernel_rfl) (fun _ _ _ h => h) (Or.inl ⟨by simp [Region.wanted, yielded, undef], ?_⟩) (by assumption) ?_
        rotate_left
        · ((intro w hSw; (try dsimp only at hSw); go_simp) <;> with_reducible rfl)
        (try simp only [Act.put, List.setIfInBounds_toArray, List.set_cons_zero, List.set_cons_succ])
        refine wpAnyH_ready (rs := [16]) (by kernel_rfl) (by simp) ?_
        refine (AllReadyH.cons rfl (fun K hK => ?_) AllReadyH.nil)
        have cx := HN.out.cells.2.2.1
        have fx := HN.out.froz 2
        go_simp
        clear cx fx
        refine hK.out _ _ ?_ (fun hHeld => ?_)
        · (try dsimp only)
          try trivial
        clear hK K
        (try simp only [Act.put, List.setIfInBounds_toArray, List.set_cons_zero, List.set_cons_succ])
        have HN := Lib.hid (HN.out.put 2 (.slice Al ((lsM ys).length + 1) cl) (bP' := .slice none 0 0) (bL' := (.slice Al ((lsM ys).length + 1) cl)) (bK' := (.slice Ak ((ksM ys).length + 1) ck)) rfl)
        generalize W.setCell ⟨w.heap.size + 1, 2, none⟩ (.slice Al ((lsM ys).length + 1) cl) = V at HN hHeld ⊢
        rename World => W
        refine wpAnyH_done (by kernel_rfl) ?_ _
        refine NoPanic.normal ?_
        focus
          go_wp2_with fail
          go_roundw
          case rel =>
            refine ⟨k + 1, (.slice Al ((lsM ys).length + 1) cl), (.slice Ak ((ksM ys).length + 1) ck), by omega, by go_num, ?_, ?_⟩
            · rw [HTK.out, List.any_append, HYE.out]; rfl
            · rw [HTK.out, lsM_snoc, ksM_snoc]
              exact HN.out
          case measure => simp [intOf]; omega
        have cx := HN.out.cells.2.2.1
        go_simp
        clear cx
        refine hK.out _ _ ?_ (fun hHeld => ?_)
        · (try dsimp only)
          try trivial
        clear hK K
        (try simp only [Act.put, List.setIfInBounds_toArray, List.set_cons_zero, List.set_cons_succ])
        refine wpAnyH_ready (rs := [1, 5]) (by kernel_rfl) (by simp) ?_
        refine (AllReadyH.cons (o := ⟨some 54, _, _, _, _, _⟩) rfl (fun K hK => ?_) (AllReadyH.cons (o := ⟨some 58, _, _, _, _, _⟩) rfl (fun K hK => ?_) AllReadyH.nil))
        have cx := HN.out.cells.2.2.2
        go_simp
        clear cx
        refine hK.out _ _ ?_ (fun hHeld => ?_)
        · (try dsimp only)
          try trivial
        clear hK K
        (try simp only [Act.put, List.setIfInBounds_toArray, List.set_cons_zero, List.set_cons_succ])
        refine wpAnyH_ready (rs := [5]) (by kernel_rfl) (by simp) ?_
        refine (AllReadyH.cons (o := ⟨some 58, _, _, _, _, _⟩) rfl (fun K hK => ?_) AllReadyH.nil)
        go_simp
        refine hK.out _ _ ?_ (fun hHeld => ?_)
        · (try dsimp only)
          try trivial
        clear hK K
        (try simp only [Act.put, List.setIfInBounds_toArray, List.set_cons_zero, List.set_cons_succ])
        obtain ⟨V, hV⟩ : ∃ V : World, V = W.alloc (.cells #[.int .i64 (a.toNat : Int)] 3) := ⟨_, rfl⟩
        rw [← hV]
        have hbW : Below W.heap.size W V := by rw [hV]; exact (Below.refl _ _).alloc (Nat.le_refl _) _
        have HFI : Hid (V.heap[W.heap.size]? = some (.cells #[.int .i64 (a.toNat : Int)] 3 (0, 0))) := by rw [hV]; exact heap_alloc_new _ _
        have HFL := Lib.hid ((hbW.block _ (Array.getElem?_eq_some_iff.1 HFL.out).1).trans HFL.out)
        have HN := Lib.hid (HN.out.old hbW)
        clear hV hbW
        generalize W.heap.size = gpos at HFI
        rename World => W
        refine wpAnyH_ready (rs := [6]) (by kernel_rfl) (by simp) ?_
        refine (AllReadyH.cons (o := ⟨some 59, _, _, _, _, _⟩) rfl (fun K hK => ?_) AllReadyH.nil)
        refine step_push_one elInt rfl _ _ rfl w.heap.size vK (ksM ys).length ((ksM ys).map ivi) rfl HN.out.k _ [ivi (a.toNat : Int)] HFI.out rfl rfl (by simp [Value.oneCell']) (by rw [ksM_len]; have := HYL.out; simp only [maxLen]; omega) (by rw [ksM_len]; have := HYL.out; omega) (Nat.le_of_lt HN.out.rl) ?_
        intro v6 V hp
        obtain ⟨Ak, ck, rfl, _⟩ := own_form hp.1
        refine hK.out _ _ ?_ (fun hHeld => ?_)
        · (try dsimp only)
          try trivial
        clear hK K
        (try simp only [Act.put, List.setIfInBounds_toArray, List.set_cons_zero, List.set_cons_succ])
        have HFL := Lib.hid ((hp.2.block _ (Array.getElem?_eq_some_iff.1 HFL.out).1 (fun e => own_ne_blk' HN.out.k HFL.out (by decide) e.symm)).trans HFL.out)
        have HN := Lib.hid (HN.out.pushK (z := (a.toNat : Int)) hp)
        clear hp
        rename World => W
        refine wpAnyH_take (i := 13) (oi := ⟨some 66, _, _, _, _, _⟩) (v := ?_) rfl (by kernel_rfl) (by kernel_rfl) (by kernel_rfl) (fun _ _ _ h => h) (Or.inl ⟨by simp [Region.wanted, yielded, undef], ?_⟩) (by assumption) ?_
        rotate_left
        · ((intro w hSw; (try dsimp only at hSw); go_simp) <;> with_reducible rfl)
        (try simp only [Act.put, List.setIfInBounds_toArray, List.set_cons_zero, List.set_cons_succ])
        refine wpAnyH_ready (rs := [12]) (by kernel_rfl) (by simp) ?_
        refine (AllReadyH.cons (o := ⟨some 65, _, _, _, _, _⟩) rfl (fun K hK => ?_) AllReadyH.nil)
        refine step_push_one elStr rfl _ _ rfl w.heap.size vL (lsM ys).length ((lsM ys).map Value.string) rfl HN.out.s _ [.string (bs r)] HFL.out rfl rfl (by simp [Value.oneCell']) (by rw [lsM_len]; have := HYL.out; simp only [maxLen]; omega) (by rw [lsM_len]; have := HYL.out; omega) (Nat.le_of_lt HN.out.rl) ?_
        intro v7 V hp
        obtain ⟨Al, cl, rfl, _⟩ := own_form hp.1
        refine hK.out _ _ ?_ (fun hHeld => ?_)
        · (try dsimp only)
          try trivial
        clear hK K
        (try simp only [Act.put, List.setIfInBounds_toArray, List.set_cons_zero, List.set_cons_succ])
        have HN := Lib.hid (HN.out.pushL (x := bs r) hp)
        clear hp
        rename World => W
        refine wpAnyH_ready (rs := [14]) (by kernel_rfl) (by simp) ?_
        refine (AllReadyH.cons rfl (fun K hK => ?_) AllReadyH.nil)
        have cx := HN.out.cells.2.2.2
        have fx := HN.out.froz 3
        go_simp
        clear cx fx
        refine hK.out _ _ ?_ (fun hHeld => ?_)
        · (try dsimp only)
          try trivial
        clear hK K
        (try simp only [Act.put, List.setIfInBounds_toArray, List.set_cons_zero, List.set_cons_succ])
        have HN := Lib.hid (HN.out.put 3 (.slice Ak ((ksM ys).length + 1) ck) (bP' := .slice none 0 0) (bL' := vL) (bK' := (.slice Ak ((ksM ys).length + 1) ck)) rfl)
        generalize W.setCell ⟨w.heap.size + 1, 3, none⟩ (.slice Ak ((ksM ys).length + 1) ck) = V at HN hHeld ⊢
        rename World => W
        refine wpAnyH_take (i := 15) (oi := ⟨some 67, _, _, _, _, _⟩) (v := ?_) rfl (by kernel_rfl) (by kernel_rfl) (by kernel_rfl) (fun _ _ _ h => h) (Or.inl ⟨by simp [Region.wanted, yielded, undef], ?_⟩) (by assumption) ?_
        rotate_left
        · ((intro w hSw; (try dsimp only at hSw); go_simp) <;> with_reducible rfl)
        (try simp only [Act.put, List.setIfInBounds_toArray, List.set_cons_zero, List.set_cons_succ])
        refine wpAnyH_ready (rs := [16]) (by kernel_rfl) (by simp) ?_
        refine (AllReadyH.cons rfl (fun K hK => ?_) AllReadyH.nil)
        have cx := HN.out.cells.2.2.1
        have fx := HN.out.froz 2
        go_simp
        clear cx fx
        refine hK.out _ _ ?_ (fun hHeld => ?_)
        · (try dsimp only)
          try trivial
        clear hK K
        (try simp only [Act.put, List.setIfInBounds_toArray, List.set_cons_zero, List.set_cons_succ])
        have HN := Lib.hid (HN.out.put 2 (.slice Al ((lsM ys).length + 1) cl) (bP' := .slice none 0 0) (bL' := (.slice Al ((lsM ys).length + 1) cl)) (bK' := (.slice Ak ((ksM ys).length + 1) ck)) rfl)
        generalize W.setCell ⟨w.heap.size + 1, 2, none⟩ (.slice Al ((lsM ys).length + 1) cl) = V at HN hHeld ⊢
        rename World => W
        refine wpAnyH_done (by kernel_rfl) ?_ _
        refine NoPanic.normal ?_
        focus
          go_wp2_with fail
          go_roundw
          case rel =>
            refine ⟨k + 1, (.slice Al ((lsM ys).length + 1) cl), (.slice Ak ((ksM ys).length + 1) ck), by omega, by go_num, ?_, ?_⟩
            · rw [HTK.out, List.any_append, HYE.out]; rfl
            · rw [HTK.out, lsM_snoc, ksM_snoc]
              exact HN.out
          case measure => simp [intOf]; omega
        go_simp
        refine hK.out _ _ ?_ (fun hHeld => ?_)
        · (try dsimp only)
          try trivial
        clear hK K
        (try simp only [Act.put, List.setIfInBounds_toArray, List.set_cons_zero, List.set_cons_succ])
        obtain ⟨V, hV⟩ : ∃ V : World, V = W.alloc (.cells #[.int .i64 (a.toNat : Int)] 3) := ⟨_, rfl⟩
        rw [← hV]
        have hbW : Below W.heap.size W V := by rw [hV]; exact (Below.refl _ _).alloc (Nat.le_refl _) _
        have HFI : Hid (V.heap[W.heap.size]? = some (.cells #[.int .i64 (a.toNat : Int)] 3 (0, 0))) := by rw [hV]; exact heap_alloc_new _ _
        have HFL := Lib.hid ((hbW.block _ (Array.getElem?_eq_some_iff.1 HFL.out).1).trans HFL.out)
        have HN := Lib.hid (HN.out.old hbW)
        clear hV hbW
        generalize W.heap.size = gpos at HFI
        rename World => W
        refine wpAnyH_ready (rs := [1]) (by kernel_rfl) (by simp) ?_
        refine (AllReadyH.cons (o := ⟨some 54, _, _, _, _, _⟩) rfl (fun K hK => ?_) AllReadyH.nil)
        have cx := HN.out.cells.2.2.2
        go_simp
        clear cx
        refine hK.out _ _ ?_ (fun hHeld => ?_)
        · (try dsimp only)
          try trivial
        clear hK K
        (try simp only [Act.put, List.setIfInBounds_toArray, List.set_cons_zero, List.set_cons_succ])
        refine wpAnyH_ready (rs := [6]) (by kernel_rfl) (by simp) ?_
        refine (AllReadyH.cons (o := ⟨some 59, _, _, _, _, _⟩) rfl (fun K hK => ?_) AllReadyH.nil)
        refine step_push_one elInt rfl _ _ rfl w.heap.size vK (ksM ys).length ((ksM ys).map ivi) rfl HN.out.k _ [ivi (a.toNat : Int)] HFI.out rfl rfl (by simp [Value.oneCell']) (by rw [ksM_len]; have := HYL.out; simp only [maxLen]; omega) (by rw [ksM_len]; have := HYL.out; omega) (Nat.le_of_lt HN.out.rl) ?_
        intro v6 V hp
        obtain ⟨Ak, ck, rfl, _⟩ := own_form hp.1
        refine hK.out _ _ ?_ (fun hHeld => ?_)
        · (try dsimp only)
          try trivial
        clear hK K
        (try simp only [Act.put, List.setIfInBounds_toArray, List.set_cons_zero, List.set_cons_succ])
        have HFL := Lib.hid ((hp.2.block _ (Array.getElem?_eq_some_iff.1 HFL.out).1 (fun e => own_ne_blk' HN.out.k HFL.out (by decide) e.symm)).trans HFL.out)
        have HN := Lib.hid (HN.out.pushK (z := (a.toNat : Int)) hp)
        clear hp
        rename World => W
        refine wpAnyH_take (i := 13) (oi := ⟨some 66, _, _, _, _, _⟩) (v := ?_) rfl (by kernel_rfl) (by kernel_rfl) (by kernel_rfl) (fun _ _ _ h => h) (Or.inl ⟨by simp [Region.wanted, yielded, undef], ?_⟩) (by assumption) ?_
        rotate_left
        · ((intro w hSw; (try dsimp only at hSw); go_simp) <;> with_reducible rfl)
        (try simp only [Act.put, List.setIfInBounds_toArray, List.set_cons_zero, List.set_cons_succ])
        refine wpAnyH_ready (rs := [12]) (by kernel_rfl) (by simp) ?_
        refine (AllReadyH.cons (o := ⟨some 65, _, _, _, _, _⟩) rfl (fun K hK => ?_) AllReadyH.nil)
        refine step_push_one elStr rfl _ _ rfl w.heap.size vL (lsM ys).length ((lsM ys).map Value.string) rfl HN.out.s _ [.string (bs r)] HFL.out rfl rfl (by simp [Value.oneCell']) (by rw [lsM_len]; have := HYL.out; simp only [maxLen]; omega) (by rw [lsM_len]; have := HYL.out; omega) (Nat.le_of_lt HN.out.rl) ?_
        intro v7 V hp
        obtain ⟨Al, cl, rfl, _⟩ := own_form hp.1
        refine hK.out _ _ ?_ (fun hHeld => ?_)
        · (try dsimp only)
          try trivial
        clear hK K
        (try simp only [Act.put, List.setIfInBounds_toArray, List.set_cons_zero, List.set_cons_succ])
        have HN := Lib.hid (HN.out.pushL (x := bs r) hp)
        clear hp
        rename World => W
        refine wpAnyH_ready (rs := [14]) (by kernel_rfl) (by simp) ?_
        refine (AllReadyH.cons rfl (fun K hK => ?_) AllReadyH.nil)
        have cx := HN.out.cells.2.2.2
        have fx := HN.out.froz 3
        go_simp
        clear cx fx
        refine hK.out _ _ ?_ (fun hHeld => ?_)
        · (try dsimp only)
          try trivial
        clear hK K
        (try simp only [Act.put, List.setIfInBounds_toArray, List.set_cons_zero, List.set_cons_succ])
        have HN := Lib.hid (HN.out.put 3 (.slice Ak ((ksM ys).length + 1) ck) (bP' := .slice none 0 0) (bL' := vL) (bK' := (.slice Ak ((ksM ys).length + 1) ck)) rfl)
        generalize W.setCell ⟨w.heap.size + 1, 3, none⟩ (.slice Ak ((ksM ys).length + 1) ck) = V at HN hHeld ⊢
        rename World => W
        refine wpAnyH_take (i := 15) (oi := ⟨some 67, _, _, _, _, _⟩) (v := ?_) rfl (by kernel_rfl) (by kernel_rfl) (by kernel_rfl) (fun _ _ _ h => h) (Or.inl ⟨by simp [Region.wanted, yielded, undef], ?_⟩) (by assumption) ?_
        rotate_left
        · ((intro w hSw; (try dsimp only at hSw); go_simp) <;> with_reducible rfl)
        (try simp only [Act.put, List.setIfInBounds_toArray, List.set_cons_zero, List.set_cons_succ])
        refine wpAnyH_ready (rs := [16]) (by kernel_rfl) (by simp) ?_
        refine (AllReadyH.cons rfl (fun K hK => ?_) AllReadyH.nil)
        have cx := HN.out.cells.2.2.1
        have fx := HN.out.froz 2
        go_simp
        clear cx fx
        refine hK.out _ _ ?_ (fun hHeld => ?_)
        · (try dsimp only)
          try trivial
        clear hK K
        (try simp only [Act.put, List.setIfInBounds_toArray, List.set_cons_zero, List.set_cons_succ])
        have HN := Lib.hid (HN.out.put 2 (.slice Al ((lsM ys).length + 1) cl) (bP' := .slice none 0 0) (bL' := (.slice Al ((lsM ys).length + 1) cl)) (bK' := (.slice Ak ((ksM ys).length + 1) ck)) rfl)
        generalize W.setCell ⟨w.heap.size + 1, 2, none⟩ (.slice Al ((lsM ys).length + 1) cl) = V at HN hHeld ⊢
        rename World => W
        refine wpAnyH_done (by kernel_rfl) ?_ _
        refine NoPanic.normal ?_
        focus
          go_wp2_with fail
          go_roundw
          case rel =>
            refine ⟨k + 1, (.slice Al ((lsM ys).length + 1) cl), (.slice Ak ((ksM ys).length + 1) ck), by omega, by go_num, ?_, ?_⟩
            · rw [HTK.out, List.any_append, HYE.out]; rfl
            · rw [HTK.out, lsM_snoc, ksM_snoc]
              exact HN.out
          case measure => simp [intOf]; omega
    · have ht : xs.take k = xs := List.take_of_length_le (by omega)
      rw [ht] at HN HYE
      clear ht
      obtain ⟨A1, n1, rfl, _⟩ := own_form HN.out.s
      obtain ⟨A2, n2, rfl, _⟩ := own_form HN.out.k
      have HQM : Hid (ndM false xs = ⟨false, [], lsM xs, ksM xs⟩) := by show _ = _; unfold ndM; rw [if_neg (by simp)]
      have HO : Hid (okNd false xs = (withinB xs.length 1 4 && okK (lsM xs) (ksM xs))) := by show _ = _; unfold okNd; rw [if_neg (by simp), HYE.out]; rfl
      have HI : Hid (innerB (lsM xs) (ksM xs) = (decide (xs.length = 0) || (withinB xs.length 1 4 && okK (lsM xs) (ksM xs)))) := by show _ = _; unfold innerB; rw [ksM_len]
      have hls : ((lsM xs).length : Int) = (xs.length : Int) := by rw [lsM_len]
      clear hls
      by_cases h0 : xs.length = 0
      · have HIN : Hid (innerB (lsM xs) (ksM xs) = true) := by show _ = _; rw [HI.out, decide_eq_true h0]; rfl
        have HOK : Hid (okNd false xs = false) := by show _ = _; rw [HO.out, h0]; rfl
        go_wp2_with fail
        refine wp_region_noPanic ?_
        refine wp_region_held_drew (S := (fun w' => w'.cell? ⟨w.heap.size + 1, 0, none⟩ = some (.bool false) ∧ w'.cell? ⟨w.heap.size + 1, 1, none⟩ = some (.slice none 0 0) ∧ w'.cell? ⟨w.heap.size + 1, 2, none⟩ = some (.slice A1 (lsM xs).length n1) ∧ w'.cell? ⟨w.heap.size + 1, 3, none⟩ = some (.slice A2 (ksM xs).length n2))) (by kernel_rfl) ?_ (fun hHeld => ?_)
        · (try dsimp only)
          exact nd_cells HN.out.drew.box
        have HN := Lib.hid HN.out.drew
        generalize wr.drew = W at HN hHeld ⊢
        refine wpAnyH_take (i := 0) (oi := ⟨some 69, _, _, _, _, _⟩) (v := ?_) rfl (by kernel_rfl) (by kernel_rfl) (by kernel_rfl) (fun _ _ _ h => h) (Or.inl ⟨by simp [Region.wanted, yielded, undef], ?_⟩) (by assumption) ?_
        rotate_left
        · ((intro w hSw; (try dsimp only at hSw); go_simp) <;> with_reducible rfl)
        (try simp only [Act.put, List.setIfInBounds_toArray, List.set_cons_zero, List.set_cons_succ])
        refine wpAnyH_take (i := 1) (oi := ⟨some 70, _, _, _, _, _⟩) (v := ?_) rfl (by kernel_rfl) (by kernel_rfl) (by kernel_rfl) (fun _ _ _ h => h) (Or.inl ⟨by simp [Region.wanted, yielded, undef], ?_⟩) (by assumption) ?_
        rotate_left
        · ((intro w hSw; (try dsimp only at hSw); go_simp) <;> with_reducible rfl)
        (try simp only [Act.put, List.setIfInBounds_toArray, List.set_cons_zero, List.set_cons_succ])
        refine wpAnyH_ready (rs := [2]) (by kernel_rfl) (by simp) ?_
        refine (AllReadyH.cons (o := ⟨some 71, _, _, _, _, _⟩) rfl (fun K hK => ?_) AllReadyH.nil)
        go_simp
        refine (nodeOK_inner none A1 A2 0 n1 n2 (lsM xs) (ksM xs) W (Rd.own HN.out.s) (Rd.own HN.out.k) (by rw [lsM_len, ksM_len]) (by rw [ksM_len]; omega)).mono ?_
        rw [HIN.out]
        rintro e V ⟨rfl, hb2⟩
        go_wp2_with fail
        refine hK.out _ _ ?_ (fun hHeld => ?_)
        · (try dsimp only)
          exact nd_cells (HN.out.old hb2).box
        clear hK K
        (try simp only [Act.put, List.setIfInBounds_toArray, List.set_cons_zero, List.set_cons_succ])
        have HN := Lib.hid (HN.out.old hb2)
        clear hb2
        rename World => W
        refine wpAnyH_take (i := 3) (oi := ⟨some 72, _, _, _, _, _⟩) (v := ?_) rfl (by kernel_rfl) (by kernel_rfl) (by kernel_rfl) (fun _ _ _ h => h) (Or.inl ⟨by simp [Region.wanted, yielded, undef], ?_⟩) (by assumption) ?_
        rotate_left
        · ((intro w hSw; (try dsimp only at hSw); go_simp) <;> with_reducible rfl)
        (try simp only [Act.put, List.setIfInBounds_toArray, List.set_cons_zero, List.set_cons_succ])
        refine wpAnyH_take (i := 4) (oi := ⟨some 73, _, _, _, _, _⟩) (v := ?_) rfl (by kernel_rfl) (by kernel_rfl) (by kernel_rfl) (fun _ _ _ h => h) (Or.inl ⟨by simp [Region.wanted, yielded, undef], ?_⟩) (by assumption) ?_
        rotate_left
        · ((intro w hSw; (try dsimp only at hSw); go_simp) <;> with_reducible rfl)
        (try simp only [Act.put, List.setIfInBounds_toArray, List.set_cons_zero, List.set_cons_succ])
        refine wpAnyH_ready (rs := [5]) (by kernel_rfl) (by simp) ?_
        refine (AllReadyH.cons (o := ⟨some 74, _, _, _, _, _⟩) rfl (fun K hK => ?_) AllReadyH.nil)
        go_simp
        refine (free_zero' none A1 A2 0 (lsM xs).length n1 (ksM xs).length n2 W (by rw [lsM_len]; exact h0) (by rw [ksM_len]; exact h0)).mono ?_
        rintro e V ⟨rfl, hb2⟩
        go_wp2_with fail
        refine hK.out _ _ ?_ (fun hHeld => ?_)
        · (try dsimp only)
          exact nd_cells (HN.out.old hb2).box
        clear hK K
        (try simp only [Act.put, List.setIfInBounds_toArray, List.set_cons_zero, List.set_cons_succ])
        have HN := Lib.hid (HN.out.old hb2)
        clear hb2
        rename World => W
        refine wpAnyH_take (i := 6) (oi := ⟨some 75, _, _, _, _, _⟩) (v := ?_) rfl (by kernel_rfl) (by kernel_rfl) (by kernel_rfl) (fun _ _ _ h => h) (Or.inl ⟨by simp [Region.wanted, yielded, undef], ?_⟩) (by assumption) ?_
        rotate_left
        · ((intro w hSw; (try dsimp only at hSw); go_simp) <;> with_reducible rfl)
        (try simp only [Act.put, List.setIfInBounds_toArray, List.set_cons_zero, List.set_cons_succ])
        refine wpAnyH_take (i := 7) (oi := ⟨some 76, _, _, _, _, _⟩) (v := ?_) rfl (by kernel_rfl) (by kernel_rfl) (by kernel_rfl) (fun _ _ _ h => h) (Or.inl ⟨by simp [Region.wanted, yielded, undef], ?_⟩) (by assumption) ?_
        rotate_left
        · ((intro w hSw; (try dsimp only at hSw); go_simp) <;> with_reducible rfl)
        (try simp only [Act.put, List.setIfInBounds_toArray, List.set_cons_zero, List.set_cons_succ])
        refine wpAnyH_ready (rs := [8]) (by kernel_rfl) (by simp) ?_
        refine (AllReadyH.cons rfl (fun K hK => ?_) AllReadyH.nil)
        obtain ⟨r0, r1, r2, r3, rf⟩ := HN.out.resCells
        have rf0 := rf 0
        have rf1 := rf 1
        have rf2 := rf 2
        have rf3 := rf 3
        go_simp
        clear r0 r1 r2 r3 rf rf0 rf1 rf2 rf3
        refine hK.out _ _ ?_ (fun hHeld => ?_)
        · (try dsimp only)
          exact nd_cells (HN.out.res4 (.bool false) (.slice none 0 0) (.slice A1 (lsM xs).length n1) (.slice A2 (ksM xs).length n2)).2.1
        clear hK K
        (try simp only [Act.put, List.setIfInBounds_toArray, List.set_cons_zero, List.set_cons_succ])
        have HR := Lib.hid (HN.out.res4 (.bool false) (.slice none 0 0) (.slice A1 (lsM xs).length n1) (.slice A2 (ksM xs).length n2))
        generalize ((((W.setCell ⟨w.heap.size, 0, none⟩ (.bool false)).setCell ⟨w.heap.size, 1, none⟩ (.slice none 0 0)).setCell ⟨w.heap.size, 2, none⟩ (.slice A1 (lsM xs).length n1)).setCell ⟨w.heap.size, 3, none⟩ (.slice A2 (ksM xs).length n2)) = W5 at HR hHeld ⊢
        refine wpAnyH_take (i := 9) (oi := ⟨some 5, _, _, _, _, _⟩) (v := ?_) rfl (by kernel_rfl) (by kernel_rfl) (by kernel_rfl) (fun _ _ _ h => h) (Or.inl ⟨by simp [Region.wanted, yielded, undef], ?_⟩) (by assumption) ?_
        rotate_left
        · ((intro w hSw; (try dsimp only at hSw); go_simp) <;> with_reducible rfl)
        (try simp only [Act.put, List.setIfInBounds_toArray, List.set_cons_zero, List.set_cons_succ])
        refine wpAnyH_done (by kernel_rfl) ?_ _
        refine NoPanic.normal ?_
        go_wp2_with fail
        obtain ⟨h1, _, hp, hs, hk, hbl⟩ := HR.out
        obtain ⟨z0, z1, z2, z3⟩ := nd_cells h1
        refine bodyPost_ret (v := .tuple #[ndV false none 0 0 A1 (lsM xs).length n1 A2 (ksM xs).length n2, .bool false]) (by simp [results, Try.results221, go_sem, z0, z1, z2, z3]) rfl ?_
        refine ⟨⟨false, [], lsM xs, ksM xs⟩, none, 0, A1, n1, A2, n2, ?_, ⟨hp, hs, hk⟩, ?_, hbl⟩
        · rw [HOK.out]; rfl
        · intro h
          rw [HOK.out] at h; cases h
      · cases hb : (withinB xs.length 1 4 && okK (lsM xs) (ksM xs)) with
        | false =>
          have HIN : Hid (innerB (lsM xs) (ksM xs) = false) := by show _ = _; rw [HI.out, decide_eq_false h0, hb]; rfl
          have HOK : Hid (okNd false xs = false) := by show _ = _; rw [HO.out, hb]
          clear hb
          go_wp2_with fail
          refine wp_region_noPanic ?_
          refine wp_region_held_drew (S := (fun w' => w'.cell? ⟨w.heap.size + 1, 0, none⟩ = some (.bool false) ∧ w'.cell? ⟨w.heap.size + 1, 1, none⟩ = some (.slice none 0 0) ∧ w'.cell? ⟨w.heap.size + 1, 2, none⟩ = some (.slice A1 (lsM xs).length n1) ∧ w'.cell? ⟨w.heap.size + 1, 3, none⟩ = some (.slice A2 (ksM xs).length n2))) (by kernel_rfl) ?_ (fun hHeld => ?_)
          · (try dsimp only)
            exact nd_cells HN.out.drew.box
          have HN := Lib.hid HN.out.drew
          generalize wr.drew = W at HN hHeld ⊢
          refine wpAnyH_take (i := 0) (oi := ⟨some 69, _, _, _, _, _⟩) (v := ?_) rfl (by kernel_rfl) (by kernel_rfl) (by kernel_rfl) (fun _ _ _ h => h) (Or.inl ⟨by simp [Region.wanted, yielded, undef], ?_⟩) (by assumption) ?_
          rotate_left
          · ((intro w hSw; (try dsimp only at hSw); go_simp) <;> with_reducible rfl)
          (try simp only [Act.put, List.setIfInBounds_toArray, List.set_cons_zero, List.set_cons_succ])
          refine wpAnyH_take (i := 1) (oi := ⟨some 70, _, _, _, _, _⟩) (v := ?_) rfl (by kernel_rfl) (by kernel_rfl) (by kernel_rfl) (fun _ _ _ h => h) (Or.inl ⟨by simp [Region.wanted, yielded, undef], ?_⟩) (by assumption) ?_
          rotate_left
          · ((intro w hSw; (try dsimp only at hSw); go_simp) <;> with_reducible rfl)
          (try simp only [Act.put, List.setIfInBounds_toArray, List.set_cons_zero, List.set_cons_succ])
          refine wpAnyH_ready (rs := [2]) (by kernel_rfl) (by simp) ?_
          refine (AllReadyH.cons (o := ⟨some 71, _, _, _, _, _⟩) rfl (fun K hK => ?_) AllReadyH.nil)
          go_simp
          refine (nodeOK_inner none A1 A2 0 n1 n2 (lsM xs) (ksM xs) W (Rd.own HN.out.s) (Rd.own HN.out.k) (by rw [lsM_len, ksM_len]) (by rw [ksM_len]; omega)).mono ?_
          rw [HIN.out]
          rintro e V ⟨rfl, hb2⟩
          go_wp2_with fail
          refine hK.out _ _ ?_ (fun hHeld => ?_)
          · (try dsimp only)
            exact nd_cells (HN.out.old hb2).box
          clear hK K
          (try simp only [Act.put, List.setIfInBounds_toArray, List.set_cons_zero, List.set_cons_succ])
          have HN := Lib.hid (HN.out.old hb2)
          clear hb2
          rename World => W
          refine wpAnyH_take (i := 3) (oi := ⟨some 72, _, _, _, _, _⟩) (v := ?_) rfl (by kernel_rfl) (by kernel_rfl) (by kernel_rfl) (fun _ _ _ h => h) (Or.inl ⟨by simp [Region.wanted, yielded, undef], ?_⟩) (by assumption) ?_
          rotate_left
          · ((intro w hSw; (try dsimp only at hSw); go_simp) <;> with_reducible rfl)
          (try simp only [Act.put, List.setIfInBounds_toArray, List.set_cons_zero, List.set_cons_succ])
          refine wpAnyH_take (i := 4) (oi := ⟨some 73, _, _, _, _, _⟩) (v := undef) rfl (by kernel_rfl) (by kernel_rfl) (by kernel_rfl) (fun _ _ _ h => h) (Or.inr ⟨by simp [Region.wanted, yielded, undef], rfl⟩) (by assumption) ?_
          (try simp only [Act.put, List.setIfInBounds_toArray, List.set_cons_zero, List.set_cons_succ])
          refine wpAnyH_take (i := 5) (oi := ⟨some 74, _, _, _, _, _⟩) (v := undef) rfl (by kernel_rfl) (by kernel_rfl) (by kernel_rfl) (fun _ _ _ h => h) (Or.inr ⟨by simp [Region.wanted, yielded, undef], rfl⟩) (by assumption) ?_
          (try simp only [Act.put, List.setIfInBounds_toArray, List.set_cons_zero, List.set_cons_succ])
          refine wpAnyH_take (i := 6) (oi := ⟨some 75, _, _, _, _, _⟩) (v := undef) rfl (by kernel_rfl) (by kernel_rfl) (by kernel_rfl) (fun _ _ _ h => h) (Or.inr ⟨by simp [Region.wanted, yielded, undef], rfl⟩) (by assumption) ?_
          (try simp only [Act.put, List.setIfInBounds_toArray, List.set_cons_zero, List.set_cons_succ])
          refine wpAnyH_take (i := 7) (oi := ⟨some 76, _, _, _, _, _⟩) (v := ?_) rfl (by kernel_rfl) (by kernel_rfl) (by kernel_rfl) (fun _ _ _ h => h) (Or.inl ⟨by simp [Region.wanted, yielded, undef], ?_⟩) (by assumption) ?_
          rotate_left
          · ((intro w hSw; (try dsimp only at hSw); go_simp) <;> with_reducible rfl)
          (try simp only [Act.put, List.setIfInBounds_toArray, List.set_cons_zero, List.set_cons_succ])
          refine wpAnyH_ready (rs := [8]) (by kernel_rfl) (by simp) ?_
          refine (AllReadyH.cons rfl (fun K hK => ?_) AllReadyH.nil)
          obtain ⟨r0, r1, r2, r3, rf⟩ := HN.out.resCells
          have rf0 := rf 0
          have rf1 := rf 1
          have rf2 := rf 2
          have rf3 := rf 3
          go_simp
          clear r0 r1 r2 r3 rf rf0 rf1 rf2 rf3
          refine hK.out _ _ ?_ (fun hHeld => ?_)
          · (try dsimp only)
            exact nd_cells (HN.out.res4 (.bool false) (.slice none 0 0) (.slice A1 (lsM xs).length n1) (.slice A2 (ksM xs).length n2)).2.1
          clear hK K
          (try simp only [Act.put, List.setIfInBounds_toArray, List.set_cons_zero, List.set_cons_succ])
          have HR := Lib.hid (HN.out.res4 (.bool false) (.slice none 0 0) (.slice A1 (lsM xs).length n1) (.slice A2 (ksM xs).length n2))
          generalize ((((W.setCell ⟨w.heap.size, 0, none⟩ (.bool false)).setCell ⟨w.heap.size, 1, none⟩ (.slice none 0 0)).setCell ⟨w.heap.size, 2, none⟩ (.slice A1 (lsM xs).length n1)).setCell ⟨w.heap.size, 3, none⟩ (.slice A2 (ksM xs).length n2)) = W5 at HR hHeld ⊢
          refine wpAnyH_take (i := 9) (oi := ⟨some 5, _, _, _, _, _⟩) (v := ?_) rfl (by kernel_rfl) (by kernel_rfl) (by kernel_rfl) (fun _ _ _ h => h) (Or.inl ⟨by simp [Region.wanted, yielded, undef], ?_⟩) (by assumption) ?_
          rotate_left
          · ((intro w hSw; (try dsimp only at hSw); go_simp) <;> with_reducible rfl)
          (try simp only [Act.put, List.setIfInBounds_toArray, List.set_cons_zero, List.set_cons_succ])
          refine wpAnyH_done (by kernel_rfl) ?_ _
          refine NoPanic.normal ?_
          go_wp2_with fail
          obtain ⟨h1, _, hp, hs, hk, hbl⟩ := HR.out
          obtain ⟨z0, z1, z2, z3⟩ := nd_cells h1
          refine bodyPost_ret (v := .tuple #[ndV false none 0 0 A1 (lsM xs).length n1 A2 (ksM xs).length n2, .bool false]) (by simp [results, Try.results221, go_sem, z0, z1, z2, z3]) rfl ?_
          refine ⟨⟨false, [], lsM xs, ksM xs⟩, none, 0, A1, n1, A2, n2, ?_, ⟨hp, hs, hk⟩, ?_, hbl⟩
          · rw [HOK.out]; rfl
          · intro h
            rw [HOK.out] at h; cases h
        | true =>
          have HIN : Hid (innerB (lsM xs) (ksM xs) = true) := by show _ = _; rw [HI.out, hb, Bool.or_true]
          have HOK : Hid (okNd false xs = true) := by show _ = _; rw [HO.out, hb]
          clear hb
          go_wp2_with fail
          refine wp_region_noPanic ?_
          refine wp_region_held_drew (S := (fun w' => w'.cell? ⟨w.heap.size + 1, 0, none⟩ = some (.bool false) ∧ w'.cell? ⟨w.heap.size + 1, 1, none⟩ = some (.slice none 0 0) ∧ w'.cell? ⟨w.heap.size + 1, 2, none⟩ = some (.slice A1 (lsM xs).length n1) ∧ w'.cell? ⟨w.heap.size + 1, 3, none⟩ = some (.slice A2 (ksM xs).length n2))) (by kernel_rfl) ?_ (fun hHeld => ?_)
          · (try dsimp only)
            exact nd_cells HN.out.drew.box
          have HN := Lib.hid HN.out.drew
          generalize wr.drew = W at HN hHeld ⊢
          refine wpAnyH_take (i := 0) (oi := ⟨some 69, _, _, _, _, _⟩) (v := ?_) rfl (by kernel_rfl) (by kernel_rfl) (by kernel_rfl) (fun _ _ _ h => h) (Or.inl ⟨by simp [Region.wanted, yielded, undef], ?_⟩) (by assumption) ?_
          rotate_left
          · ((intro w hSw; (try dsimp only at hSw); go_simp) <;> with_reducible rfl)
          (try simp only [Act.put, List.setIfInBounds_toArray, List.set_cons_zero, List.set_cons_succ])
          refine wpAnyH_take (i := 1) (oi := ⟨some 70, _, _, _, _, _⟩) (v := ?_) rfl (by kernel_rfl) (by kernel_rfl) (by kernel_rfl) (fun _ _ _ h => h) (Or.inl ⟨by simp [Region.wanted, yielded, undef], ?_⟩) (by assumption) ?_
          rotate_left
          · ((intro w hSw; (try dsimp only at hSw); go_simp) <;> with_reducible rfl)
          (try simp only [Act.put, List.setIfInBounds_toArray, List.set_cons_zero, List.set_cons_succ])
          refine wpAnyH_ready (rs := [2]) (by kernel_rfl) (by simp) ?_
          refine (AllReadyH.cons (o := ⟨some 71, _, _, _, _, _⟩) rfl (fun K hK => ?_) AllReadyH.nil)
          go_simp
          refine (nodeOK_inner none A1 A2 0 n1 n2 (lsM xs) (ksM xs) W (Rd.own HN.out.s) (Rd.own HN.out.k) (by rw [lsM_len, ksM_len]) (by rw [ksM_len]; omega)).mono ?_
          rw [HIN.out]
          rintro e V ⟨rfl, hb2⟩
          go_wp2_with fail
          refine hK.out _ _ ?_ (fun hHeld => ?_)
          · (try dsimp only)
            exact nd_cells (HN.out.old hb2).box
          clear hK K
          (try simp only [Act.put, List.setIfInBounds_toArray, List.set_cons_zero, List.set_cons_succ])
          have HN := Lib.hid (HN.out.old hb2)
          clear hb2
          rename World => W
          refine wpAnyH_take (i := 3) (oi := ⟨some 72, _, _, _, _, _⟩) (v := ?_) rfl (by kernel_rfl) (by kernel_rfl) (by kernel_rfl) (fun _ _ _ h => h) (Or.inl ⟨by simp [Region.wanted, yielded, undef], ?_⟩) (by assumption) ?_
          rotate_left
          · ((intro w hSw; (try dsimp only at hSw); go_simp) <;> with_reducible rfl)
          (try simp only [Act.put, List.setIfInBounds_toArray, List.set_cons_zero, List.set_cons_succ])
          refine wpAnyH_take (i := 4) (oi := ⟨some 73, _, _, _, _, _⟩) (v := ?_) rfl (by kernel_rfl) (by kernel_rfl) (by kernel_rfl) (fun _ _ _ h => h) (Or.inl ⟨by simp [Region.wanted, yielded, undef], ?_⟩) (by assumption) ?_
          rotate_left
          · ((intro w hSw; (try dsimp only at hSw); go_simp) <;> with_reducible rfl)
          (try simp only [Act.put, List.setIfInBounds_toArray, List.set_cons_zero, List.set_cons_succ])
          refine wpAnyH_ready (rs := [5]) (by kernel_rfl) (by simp) ?_
          refine (AllReadyH.cons (o := ⟨some 74, _, _, _, _, _⟩) rfl (fun K hK => ?_) AllReadyH.nil)
          go_simp
          refine (free_inner none A1 A2 0 (lsM xs).length n1 (ksM xs).length n2 W (by rw [lsM_len]; omega)).mono ?_
          rintro e V ⟨rfl, hb2⟩
          go_wp2_with fail
          refine hK.out _ _ ?_ (fun hHeld => ?_)
          · (try dsimp only)
            exact nd_cells (HN.out.old hb2).box
          clear hK K
          (try simp only [Act.put, List.setIfInBounds_toArray, List.set_cons_zero, List.set_cons_succ])
          have HN := Lib.hid (HN.out.old hb2)
          clear hb2
          rename World => W
          refine wpAnyH_take (i := 6) (oi := ⟨some 75, _, _, _, _, _⟩) (v := ?_) rfl (by kernel_rfl) (by kernel_rfl) (by kernel_rfl) (fun _ _ _ h => h) (Or.inl ⟨by simp [Region.wanted, yielded, undef], ?_⟩) (by assumption) ?_
          rotate_left
          · ((intro w hSw; (try dsimp only at hSw); go_simp) <;> with_reducible rfl)
          (try simp only [Act.put, List.setIfInBounds_toArray, List.set_cons_zero, List.set_cons_succ])
          refine wpAnyH_take (i := 7) (oi := ⟨some 76, _, _, _, _, _⟩) (v := ?_) rfl (by kernel_rfl) (by kernel_rfl) (by kernel_rfl) (fun _ _ _ h => h) (Or.inl ⟨by simp [Region.wanted, yielded, undef], ?_⟩) (by assumption) ?_
          rotate_left
          · ((intro w hSw; (try dsimp only at hSw); go_simp) <;> with_reducible rfl)
          (try simp only [Act.put, List.setIfInBounds_toArray, List.set_cons_zero, List.set_cons_succ])
          refine wpAnyH_ready (rs := [8]) (by kernel_rfl) (by simp) ?_
          refine (AllReadyH.cons rfl (fun K hK => ?_) AllReadyH.nil)
          obtain ⟨r0, r1, r2, r3, rf⟩ := HN.out.resCells
          have rf0 := rf 0
          have rf1 := rf 1
          have rf2 := rf 2
          have rf3 := rf 3
          go_simp
          clear r0 r1 r2 r3 rf rf0 rf1 rf2 rf3
          refine hK.out _ _ ?_ (fun hHeld => ?_)
          · (try dsimp only)
            exact nd_cells (HN.out.res4 (.bool false) (.slice none 0 0) (.slice A1 (lsM xs).length n1) (.slice A2 (ksM xs).length n2)).2.1
          clear hK K
          (try simp only [Act.put, List.setIfInBounds_toArray, List.set_cons_zero, List.set_cons_succ])
          have HR := Lib.hid (HN.out.res4 (.bool false) (.slice none 0 0) (.slice A1 (lsM xs).length n1) (.slice A2 (ksM xs).length n2))
          generalize ((((W.setCell ⟨w.heap.size, 0, none⟩ (.bool false)).setCell ⟨w.heap.size, 1, none⟩ (.slice none 0 0)).setCell ⟨w.heap.size, 2, none⟩ (.slice A1 (lsM xs).length n1)).setCell ⟨w.heap.size, 3, none⟩ (.slice A2 (ksM xs).length n2)) = W5 at HR hHeld ⊢
          refine wpAnyH_take (i := 9) (oi := ⟨some 5, _, _, _, _, _⟩) (v := ?_) rfl (by kernel_rfl) (by kernel_rfl) (by kernel_rfl) (fun _ _ _ h => h) (Or.inl ⟨by simp [Region.wanted, yielded, undef], ?_⟩) (by assumption) ?_
          rotate_left
          · ((intro w hSw; (try dsimp only at hSw); go_simp) <;> with_reducible rfl)
          (try simp only [Act.put, List.setIfInBounds_toArray, List.set_cons_zero, List.set_cons_succ])
          refine wpAnyH_done (by kernel_rfl) ?_ _
          refine NoPanic.normal ?_
          go_wp2_with fail
          obtain ⟨h1, _, hp, hs, hk, hbl⟩ := HR.out
          obtain ⟨z0, z1, z2, z3⟩ := nd_cells h1
          refine bodyPost_ret (v := .tuple #[ndV false none 0 0 A1 (lsM xs).length n1 A2 (ksM xs).length n2, .bool true]) (by simp [results, Try.results221, go_sem, z0, z1, z2, z3]) rfl ?_
          refine ⟨⟨false, [], lsM xs, ksM xs⟩, none, 0, A1, n1, A2, n2, ?_, ⟨hp, hs, hk⟩, ?_, hbl⟩
          · rw [HOK.out]; rfl
          · intro h
            exact HQM.out.symm
end Go.Proofs.Ytlfnpnkpjdmonaa
