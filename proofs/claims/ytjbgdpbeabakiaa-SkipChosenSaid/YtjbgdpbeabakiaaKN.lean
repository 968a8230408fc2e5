/- The law SkipChosen: its function answers true (Blank's contract handed in). -/
import Derived.Test.YtjbgdpbeabakiaaKJ
import Derived.Test.YtjbgdpbeabakiaaP2
namespace Go.Proofs.Ytjbgdpbeabakiaa
open Go.RowKit Go.Shelf
set_option linter.unusedVariables false
set_option linter.unusedSimpArgs false
/-- the three ways in which Value and Styles answer -/
theorem chosen_cases (m : Riv) (n l h : Int) :
    (valueV m n l h = .tuple #[.agg #[.int .i64 0, .int .i64 0], .int .i64 2] ∧ stylesR m n l h = ⟨[], 0, false, 2⟩) ∨
    (∃ x, (x = 0 ∨ x = 65536) ∧ valueV m n l h = .tuple #[.agg #[.int .i64 x, .int .i64 x], .int .i64 0] ∧ stylesR m n l h = ⟨[], 0, false, 9⟩) ∨
    (∃ H L b s, (h = 0 ∨ h = 1) ∧ L.length ≤ 8 ∧ ChosenLaw h H L b s ∧ valueV m n l h = .tuple #[.agg #[.int .i64 H.1, .int .i64 H.2], .int .i64 0] ∧ stylesR m n l h = ⟨L, b, s, 0⟩) := by
  cases e1 : rivOk m && stOk n l h
  · exact .inl ⟨by simp only [valueV]; rw [e1]; rfl, by simp only [stylesR]; rw [e1]; rfl⟩
  · have e2 := e1
    rw [Bool.and_eq_true] at e2
    obtain ⟨em, es⟩ := e2
    obtain ⟨⟨n0, n1⟩, ⟨l0, l1⟩, hh⟩ := stOk_iff es
    by_cases hn : n = 0 ∧ l ≠ 0
    · obtain ⟨rfl, hl⟩ := hn
      refine .inr (.inl ⟨if 0 < l then 65536 else 0, by split <;> simp, ?_, ?_⟩)
      · simp only [valueV]; rw [e1, if_pos (by rfl)]
        by_cases hp : 0 < l <;> simp [hopeVal, hopeH, sureH, hl, hp]
      · simp only [stylesR]; rw [e1, if_pos (by rfl), if_pos (by simp [hl])]
    · refine .inr (.inr ⟨hopeH m n.toNat l h, stylesL m n.toNat l h, bestI h (stylesL m n.toNat l h), surelyB h (stylesL m n.toNat l h) (bestI h (stylesL m n.toNat l h)) (stylesL m n.toNat l h).length, hh, ?_, ?_, ?_, ?_⟩)
      · rw [stylesL_len]; have := rivOk_st em h; omega
      · rw [hopeH_eq m n.toNat l h (by omega)]
        exact chosen_law hh (by rw [stylesH_len]; have := rivOk_st em h; omega) (stylesL_lh em n.toNat l h)
      · simp only [valueV]; rw [e1, if_pos (by rfl)]; rfl
      · simp only [stylesR]; rw [e1, if_pos (by rfl), if_neg hn]
set_option maxHeartbeats 8000000 in
set_option maxRecDepth 100000 in
theorem SkipChosen_c (hBl : BlankOk) (A0 A1 : Option Addr) (c0 c1 : Nat) (m : Riv) (n l h : Int) (w : World) (hc : Came w A0 A1 m) :
    Calls Try.prog 7 #[rivV m A0 A1 c0 c1, .agg #[.int .i64 n, .int .i64 l, .int .i64 h]] w fun e w' => e = .returned (.bool true) ∧ Below w.heap.size w w' := by
  have KA := Aside.mk (alive_c hBl)
  have KG := Aside.mk (fun w (h' : Came w A0 A1 m) => long_c A0 A1 c0 c1 m n l h 3 w h'.ra h'.rb h'.la h'.lb h'.ca h'.cb)
  have HB0 : Below w.heap.size w ((w.alloc (.cells #[.int .i64 m.d, .slice A0 m.a.length c0, .slice A1 m.b.length c1] 25)).alloc (.cells #[.int .i64 n, .int .i64 l, .int .i64 h] 27)) := (by repeat (with_reducible first | exact Below.refl _ _ | assumption | refine Below.al ?_ _ | refine Below.dr ?_ | refine Below.drn ?_ _ | refine Below.sc ?_ (by simp <;> omega) _ | refine Below.th ?_ (by assumption)))
  have X0 : Blk ((w.alloc (.cells #[.int .i64 m.d, .slice A0 m.a.length c0, .slice A1 m.b.length c1] 25)).alloc (.cells #[.int .i64 n, .int .i64 l, .int .i64 h] 27)) w.heap.size #[.int .i64 m.d, .slice A0 m.a.length c0, .slice A1 m.b.length c1] 25 := (Blk.fresh _ _ _).al _
  have X1 : Blk ((w.alloc (.cells #[.int .i64 m.d, .slice A0 m.a.length c0, .slice A1 m.b.length c1] 25)).alloc (.cells #[.int .i64 n, .int .i64 l, .int .i64 h] 27)) (w.heap.size + 1) #[.int .i64 n, .int .i64 l, .int .i64 h] 27 := Blk.fresh' (by simp)
  have HC := Aside.mk (hc.be HB0)
  cases hg : (greatB m || (decide (3 < n) && decide (n ≤ 12)))
  · have hgr : greatB m = false := by
      cases e : greatB m
      · rfl
      · rw [e] at hg; simp at hg
    rw [hg] at KG
    have HCA : Aside (∀ w, Came w A0 A1 m → Args w A0 A1 m) := ⟨fun w hc => hc.args hgr⟩
    have KV := Aside.mk (fun w (ha : Args w A0 A1 m) => Value_c A0 A1 c0 c1 m n l h w ha)
    have KS := Aside.mk (fun w (ha : Args w A0 A1 m) => Styles_c A0 A1 c0 c1 m n l h w ha)
    have CS := Aside.mk (chosen_cases m n l h)
    unfold rivV StylesRet at *
    clear hc hg hgr hBl
    go_enter Try.func7, Try.ntmps7
    go_wp2_with fail
    generalize (w.alloc (.cells #[.int .i64 m.d, .slice A0 m.a.length c0, .slice A1 m.b.length c1] 25)).alloc (.cells #[.int .i64 n, .int .i64 l, .int .i64 h] 27) = v at *
    refine (KA.out _).mono ?_
    rintro e v1 ⟨rfl, zb⟩
    have X0 := X0.be zb
    have X1 := X1.be zb
    have HC := Aside.mk (HC.out.be zb)
    have HB := Below.th HB0 zb
    have x0 := (X0.cell 0).trans (show _ = some (.int .i64 m.d) from rfl)
    have x1 := (X0.cell 1).trans (show _ = some (.slice A0 m.a.length c0) from rfl)
    have x2 := (X0.cell 2).trans (show _ = some (.slice A1 m.b.length c1) from rfl)
    have y0 := (X1.cell 0).trans (show _ = some (.int .i64 n) from rfl)
    have y1 := (X1.cell 1).trans (show _ = some (.int .i64 l) from rfl)
    have y2 := (X1.cell 2).trans (show _ = some (.int .i64 h) from rfl)
    clear zb HB0 KA
    go_wp2_with fail
    refine (KG.out _ HC.out).mono ?_
    rintro e v2 ⟨rfl, zb⟩
    have X0 := X0.be zb
    have X1 := X1.be zb
    have HR := HCA.out _ (HC.out.be zb)
    have HB := Below.th HB zb
    have x0 := (X0.cell 0).trans (show _ = some (.int .i64 m.d) from rfl)
    have x1 := (X0.cell 1).trans (show _ = some (.slice A0 m.a.length c0) from rfl)
    have x2 := (X0.cell 2).trans (show _ = some (.slice A1 m.b.length c1) from rfl)
    have y0 := (X1.cell 0).trans (show _ = some (.int .i64 n) from rfl)
    have y1 := (X1.cell 1).trans (show _ = some (.int .i64 l) from rfl)
    have y2 := (X1.cell 2).trans (show _ = some (.int .i64 h) from rfl)
    clear zb KG HC HCA
    go_wp2_with fail
    refine (KV.out _ HR).mono ?_
    rintro e v3 ⟨rfl, zb⟩
    have X0 := X0.be zb
    have X1 := X1.be zb
    have HR := HR.be zb
    have HB := Below.th HB zb
    clear zb KV x0 x1 x2 y0 y1 y2
    rcases CS.out with ⟨ev, es⟩ | ⟨x, hx, ev, es⟩ | ⟨H, L, b, s, hh, hl8, HL, ev, es⟩
    · have KS := KS.out
      rw [es] at KS
      rw [ev]
      have KS := Aside.mk KS
      have X0 := X0.al (.cells #[.int .i64 0, .int .i64 0] 43)
      have X1 := X1.al (.cells #[.int .i64 0, .int .i64 0] 43)
      have HR := HR.be (Below.al (Below.refl _ _) (.cells #[.int .i64 0, .int .i64 0] 43))
      have HB := Below.al HB (.cells #[.int .i64 0, .int .i64 0] 43)
      have x0 := (X0.cell 0).trans (show _ = some (.int .i64 m.d) from rfl)
      have x1 := (X0.cell 1).trans (show _ = some (.slice A0 m.a.length c0) from rfl)
      have x2 := (X0.cell 2).trans (show _ = some (.slice A1 m.b.length c1) from rfl)
      have y0 := (X1.cell 0).trans (show _ = some (.int .i64 n) from rfl)
      have y1 := (X1.cell 1).trans (show _ = some (.int .i64 l) from rfl)
      have y2 := (X1.cell 2).trans (show _ = some (.int .i64 h) from rfl)
      clear CS es ev
      go_wp2_with fail
      refine (KS.out _ HR).mono ?_
      rintro e v4 ⟨A, c, rfl, har, hc1, hc2, zb⟩
      have HB := Below.th HB zb
      go_wp2
      go_ret
      exact ⟨rfl, HB⟩
    · have KS := KS.out
      rw [es] at KS
      rw [ev]
      have KS := Aside.mk KS
      have X0 := X0.al (.cells #[.int .i64 x, .int .i64 x] 43)
      have X1 := X1.al (.cells #[.int .i64 x, .int .i64 x] 43)
      have X2 := Blk.fresh v3 #[.int .i64 x, .int .i64 x] 43
      have HR := HR.be (Below.al (Below.refl _ _) (.cells #[.int .i64 x, .int .i64 x] 43))
      have HB := Below.al HB (.cells #[.int .i64 x, .int .i64 x] 43)
      have x0 := (X0.cell 0).trans (show _ = some (.int .i64 m.d) from rfl)
      have x1 := (X0.cell 1).trans (show _ = some (.slice A0 m.a.length c0) from rfl)
      have x2 := (X0.cell 2).trans (show _ = some (.slice A1 m.b.length c1) from rfl)
      have y0 := (X1.cell 0).trans (show _ = some (.int .i64 n) from rfl)
      have y1 := (X1.cell 1).trans (show _ = some (.int .i64 l) from rfl)
      have y2 := (X1.cell 2).trans (show _ = some (.int .i64 h) from rfl)
      clear CS es ev
      rcases hx with rfl | rfl
      all_goals
        go_wp2_with fail
        refine (KS.out _ HR).mono ?_
        rintro e v4 ⟨A, c, rfl, har, hc1, hc2, zb⟩
        have HB := Below.th HB zb
        have X2 := X2.be zb
        have q0 := (X2.cell 0).trans (show _ = some (.int .i64 _) from rfl)
        have q1 := (X2.cell 1).trans (show _ = some (.int .i64 _) from rfl)
        clear x0 x1 x2 y0 y1 y2
        go_wp2
        go_ret
        exact ⟨rfl, HB⟩
    · have KS := KS.out
      rw [es] at KS
      rw [ev]
      have KS := Aside.mk KS
      have X0 := X0.al (.cells #[.int .i64 H.1, .int .i64 H.2] 43)
      have X1 := X1.al (.cells #[.int .i64 H.1, .int .i64 H.2] 43)
      have X2 := Blk.fresh v3 #[.int .i64 H.1, .int .i64 H.2] 43
      have HR := HR.be (Below.al (Below.refl _ _) (.cells #[.int .i64 H.1, .int .i64 H.2] 43))
      have HB := Below.al HB (.cells #[.int .i64 H.1, .int .i64 H.2] 43)
      have x0 := (X0.cell 0).trans (show _ = some (.int .i64 m.d) from rfl)
      have x1 := (X0.cell 1).trans (show _ = some (.slice A0 m.a.length c0) from rfl)
      have x2 := (X0.cell 2).trans (show _ = some (.slice A1 m.b.length c1) from rfl)
      have y0 := (X1.cell 0).trans (show _ = some (.int .i64 n) from rfl)
      have y1 := (X1.cell 1).trans (show _ = some (.int .i64 l) from rfl)
      have y2 := (X1.cell 2).trans (show _ = some (.int .i64 h) from rfl)
      clear CS es ev
      have HLL := Lib.hid HL
      have hlt := HL.lt
      clear HL
      go_wp2_with fail
      refine (KS.out _ HR).mono ?_
      rintro e v4 ⟨A, c, rfl, har, hc1, hc2, zb⟩
      have HB := Below.th HB zb
      have X1 := X1.be zb
      have X2 := X2.be zb
      clear zb KS x0 x1 x2 y0 y1 y2 X0 HR
      generalize v3.heap.size = hb at *
      obtain ⟨bk, o, hA, hbk, hcx, hcy⟩ := hopes_at har hlt
      have gc : L.getD b (0, 0) = L[b] := by simp [hlt]
      rcases hh with rfl | rfl
      · have HR := HLL.out.one0 rfl
        rw [gc] at HR
        obtain ⟨o1, o2⟩ := HR
        have HF : Aside (∀ i, (hi : i < L.length) → L[i].1 ≤ L[i].2 ∧ L[i].1 ≤ L[b].1 ∧ (i < b → L[i].1 ≠ L[b].1) ∧ (s = true → i ≠ b → L[i].2 ≤ L[b].1)) := ⟨fun i hi => by
          have gi : L.getD i (0, 0) = L[i] := by simp [hi]
          have t1 := HLL.out.lh i hi
          have t2 := HLL.out.le0 rfl i hi
          have t3 := fun e => HLL.out.sure0 rfl e i hi
          rw [gi, gc] at t2 t3; rw [gi] at t1
          exact ⟨t1, t2.1, t2.2, t3⟩⟩
        have HBo : Aside (s = true → L[b] = H) := ⟨fun e => by have := HLL.out.both e; rwa [gc] at this⟩
        clear HLL gc
        have hb1 := X2.lt
        have hb2 : ¬ hb = v4.heap.size ∧ ¬ v4.heap.size = hb := by omega
        have hb3 := X1.lt
        have hb4 : ¬ w.heap.size + 1 = v4.heap.size ∧ ¬ v4.heap.size = w.heap.size + 1 := by omega
        obtain ⟨hb5, hb6⟩ := hb2
        obtain ⟨hb7, hb8⟩ := hb4
        have q0 := (X2.cell 0).trans (show _ = some (.int .i64 H.1) from rfl)
        have q1 := (X2.cell 1).trans (show _ = some (.int .i64 H.2) from rfl)
        have y2 := (X1.cell 2).trans (show _ = some (.int .i64 0) from rfl)
        have hbl : (b : Int) < L.length := by omega
        have hbl2 : ¬ (L.length : Int) ≤ b := by omega
        have hnn : ¬ (b : Int) < 0 := by omega
        have hbl3 : ¬ L.length ≤ b := by omega
        have Z := Blk.fresh v4 #[.int .i64 (L[b].1), .int .i64 (L[b].2)] 43
        have HBz := Below.al HB (.cells #[.int .i64 (L[b].1), .int .i64 (L[b].2)] 43)
        have X1 := X1.al (.cells #[.int .i64 (L[b].1), .int .i64 (L[b].2)] 43)
        have X2 := X2.al (.cells #[.int .i64 (L[b].1), .int .i64 (L[b].2)] 43)
        have har := har.below (Below.al (Below.refl _ _) (.cells #[.int .i64 (L[b].1), .int .i64 (L[b].2)] 43))
        have o3 : ¬ H.2 < L[b].2 := by omega
        clear o2
        generalize L[b] = C at *
        subst hA
        obtain ⟨H1, H2⟩ := H
        obtain ⟨C1, C2⟩ := C
        dsimp only at *
        subst o1
        go_wp2_with fail
        generalize v4.heap.size = hz at *
        generalize v4.alloc (.cells #[.int .i64 C1, .int .i64 C2] 43) = v5 at *
        have r0 := (Z.cell 0).trans (show _ = some (.int .i64 C1) from rfl)
        have r1 := (Z.cell 1).trans (show _ = some (.int .i64 C2) from rfl)
        clear q0 q1 y2 hcx hcy hbk hb1 hb3 hb5 hb6 hb7 hb8
        go_loopw [114] (fun i wr => ∃ j : Nat, j ≤ L.length ∧ i = .int .i64 j ∧ Below v5.heap.size v5 wr) (fun i _ => L.length - (intOf i).toNat)
        case atStart => exact ⟨0, by omega, rfl, Below.refl _ _⟩
        case round =>
          obtain ⟨j, hj, rfl, hB⟩ := hrel
          have X1 := X1.be hB
          have X2 := X2.be hB
          have Z := Z.be hB
          have HBr := Below.th HBz hB
          have q0 := (X2.cell 0).trans (show _ = some (.int .i64 C1) from rfl)
          have q1 := (X2.cell 1).trans (show _ = some (.int .i64 H2) from rfl)
          have y2 := (X1.cell 2).trans (show _ = some (.int .i64 0) from rfl)
          have r0 := (Z.cell 0).trans (show _ = some (.int .i64 C1) from rfl)
          have r1 := (Z.cell 1).trans (show _ = some (.int .i64 C2) from rfl)
          have hzl := Z.lt
          have hsl := X1.lt
          by_cases hlt' : j < L.length
          · obtain ⟨b', o', hA', hb', hdx, hdy⟩ := hopes_at (har.below hB) hlt'
            obtain ⟨rfl, rfl⟩ : bk = b' ∧ o = o' := by simpa using hA'
            obtain ⟨f1, f2, f3, f4⟩ := HF.out j hlt'
            clear hA'
            generalize L[j] = E at *
            have g1 : ¬ E.2 < E.1 := by omega
            have g2 : ¬ C1 < E.1 := by omega
            have n1 : ¬ hz = wr.heap.size ∧ ¬ wr.heap.size = hz := by omega
            have n2 : ¬ wr.heap.size = w.heap.size + 1 := by omega
            obtain ⟨n1a, n1b⟩ := n1
            by_cases p1 : j < b
            · have f3 := f3 p1
              have p1' : (j : Int) < b := by omega
              have p2 : ¬ (j : Int) = b := by omega
              have p3 : ¬ j = b := by omega
              cases s
              · clear f1 f2 f4 HBo HF o3
                go_wp2
                go_roundw
                case rel => exact ⟨j + 1, by omega, by go_num, (by repeat (with_reducible first | exact Below.refl _ _ | assumption | refine Below.al ?_ _ | refine Below.dr ?_ | refine Below.drn ?_ _ | refine Below.sc ?_ (by simp <;> omega) _ | refine Below.th ?_ (by assumption)))⟩
                case measure => simp [intOf]; omega
              · have f4 := f4 rfl p3
                have g3 : ¬ C1 < E.2 := by omega
                clear f1 f2 f4 HBo HF o3
                go_wp2
                go_roundw
                case rel => exact ⟨j + 1, by omega, by go_num, (by repeat (with_reducible first | exact Below.refl _ _ | assumption | refine Below.al ?_ _ | refine Below.dr ?_ | refine Below.drn ?_ _ | refine Below.sc ?_ (by simp <;> omega) _ | refine Below.th ?_ (by assumption)))⟩
                case measure => simp [intOf]; omega
            · have p1' : ¬ (j : Int) < b := by omega
              clear f3
              cases s
              · clear f1 f2 f4 HBo HF o3
                go_wp2
                go_roundw
                case rel => exact ⟨j + 1, by omega, by go_num, (by repeat (with_reducible first | exact Below.refl _ _ | assumption | refine Below.al ?_ _ | refine Below.dr ?_ | refine Below.drn ?_ _ | refine Below.sc ?_ (by simp <;> omega) _ | refine Below.th ?_ (by assumption)))⟩
                case measure => simp [intOf]; omega
              · by_cases p3 : j = b
                · subst p3
                  clear f1 f2 f4 HBo HF o3
                  go_wp2
                  go_roundw
                  case rel => exact ⟨j + 1, by omega, by go_num, (by repeat (with_reducible first | exact Below.refl _ _ | assumption | refine Below.al ?_ _ | refine Below.dr ?_ | refine Below.drn ?_ _ | refine Below.sc ?_ (by simp <;> omega) _ | refine Below.th ?_ (by assumption)))⟩
                  case measure => simp [intOf]; omega
                · have f4 := f4 rfl p3
                  have p2 : ¬ (j : Int) = b := by omega
                  have g3 : ¬ C1 < E.2 := by omega
                  clear f1 f2 f4 HBo HF o3
                  go_wp2
                  go_roundw
                  case rel => exact ⟨j + 1, by omega, by go_num, (by repeat (with_reducible first | exact Below.refl _ _ | assumption | refine Below.al ?_ _ | refine Below.dr ?_ | refine Below.drn ?_ _ | refine Below.sc ?_ (by simp <;> omega) _ | refine Below.th ?_ (by assumption)))⟩
                  case measure => simp [intOf]; omega
          · obtain rfl : j = L.length := by omega
            cases s
            · clear HF HBo o3
              go_wp2
              go_ret
              exact ⟨rfl, HBr⟩
            · have e := HBo.out rfl
              simp only [Prod.mk.injEq, true_and, and_true] at e
              subst e
              clear HF HBo o3
              go_wp2
              go_ret
              exact ⟨rfl, HBr⟩
      · have HR := HLL.out.one1 rfl
        rw [gc] at HR
        obtain ⟨o1, o2⟩ := HR
        have HF : Aside (∀ i, (hi : i < L.length) → L[i].1 ≤ L[i].2 ∧ L[b].2 ≤ L[i].2 ∧ (i < b → L[i].2 ≠ L[b].2) ∧ (s = true → i ≠ b → L[b].2 ≤ L[i].1)) := ⟨fun i hi => by
          have gi : L.getD i (0, 0) = L[i] := by simp [hi]
          have t1 := HLL.out.lh i hi
          have t2 := HLL.out.le1 rfl i hi
          have t3 := fun e => HLL.out.sure1 rfl e i hi
          rw [gi, gc] at t2 t3; rw [gi] at t1
          exact ⟨t1, t2.1, t2.2, t3⟩⟩
        have HBo : Aside (s = true → L[b] = H) := ⟨fun e => by have := HLL.out.both e; rwa [gc] at this⟩
        clear HLL gc
        have hb1 := X2.lt
        have hb2 : ¬ hb = v4.heap.size ∧ ¬ v4.heap.size = hb := by omega
        have hb3 := X1.lt
        have hb4 : ¬ w.heap.size + 1 = v4.heap.size ∧ ¬ v4.heap.size = w.heap.size + 1 := by omega
        obtain ⟨hb5, hb6⟩ := hb2
        obtain ⟨hb7, hb8⟩ := hb4
        have q0 := (X2.cell 0).trans (show _ = some (.int .i64 H.1) from rfl)
        have q1 := (X2.cell 1).trans (show _ = some (.int .i64 H.2) from rfl)
        have y2 := (X1.cell 2).trans (show _ = some (.int .i64 1) from rfl)
        have hbl : (b : Int) < L.length := by omega
        have hbl2 : ¬ (L.length : Int) ≤ b := by omega
        have hnn : ¬ (b : Int) < 0 := by omega
        have hbl3 : ¬ L.length ≤ b := by omega
        have Z := Blk.fresh v4 #[.int .i64 (L[b].1), .int .i64 (L[b].2)] 43
        have HBz := Below.al HB (.cells #[.int .i64 (L[b].1), .int .i64 (L[b].2)] 43)
        have X1 := X1.al (.cells #[.int .i64 (L[b].1), .int .i64 (L[b].2)] 43)
        have X2 := X2.al (.cells #[.int .i64 (L[b].1), .int .i64 (L[b].2)] 43)
        have har := har.below (Below.al (Below.refl _ _) (.cells #[.int .i64 (L[b].1), .int .i64 (L[b].2)] 43))
        have o3 : ¬ L[b].1 < H.1 := by omega
        clear o2
        generalize L[b] = C at *
        subst hA
        obtain ⟨H1, H2⟩ := H
        obtain ⟨C1, C2⟩ := C
        dsimp only at *
        subst o1
        go_wp2_with fail
        generalize v4.heap.size = hz at *
        generalize v4.alloc (.cells #[.int .i64 C1, .int .i64 C2] 43) = v5 at *
        have r0 := (Z.cell 0).trans (show _ = some (.int .i64 C1) from rfl)
        have r1 := (Z.cell 1).trans (show _ = some (.int .i64 C2) from rfl)
        clear q0 q1 y2 hcx hcy hbk hb1 hb3 hb5 hb6 hb7 hb8
        go_loopw [114] (fun i wr => ∃ j : Nat, j ≤ L.length ∧ i = .int .i64 j ∧ Below v5.heap.size v5 wr) (fun i _ => L.length - (intOf i).toNat)
        case atStart => exact ⟨0, by omega, rfl, Below.refl _ _⟩
        case round =>
          obtain ⟨j, hj, rfl, hB⟩ := hrel
          have X1 := X1.be hB
          have X2 := X2.be hB
          have Z := Z.be hB
          have HBr := Below.th HBz hB
          have q0 := (X2.cell 0).trans (show _ = some (.int .i64 H1) from rfl)
          have q1 := (X2.cell 1).trans (show _ = some (.int .i64 C2) from rfl)
          have y2 := (X1.cell 2).trans (show _ = some (.int .i64 1) from rfl)
          have r0 := (Z.cell 0).trans (show _ = some (.int .i64 C1) from rfl)
          have r1 := (Z.cell 1).trans (show _ = some (.int .i64 C2) from rfl)
          have hzl := Z.lt
          have hsl := X1.lt
          by_cases hlt' : j < L.length
          · obtain ⟨b', o', hA', hb', hdx, hdy⟩ := hopes_at (har.below hB) hlt'
            obtain ⟨rfl, rfl⟩ : bk = b' ∧ o = o' := by simpa using hA'
            obtain ⟨f1, f2, f3, f4⟩ := HF.out j hlt'
            clear hA'
            generalize L[j] = E at *
            have g1 : ¬ E.2 < E.1 := by omega
            have g2 : ¬ E.2 < C2 := by omega
            have n1 : ¬ hz = wr.heap.size ∧ ¬ wr.heap.size = hz := by omega
            have n2 : ¬ wr.heap.size = w.heap.size + 1 := by omega
            obtain ⟨n1a, n1b⟩ := n1
            by_cases p1 : j < b
            · have f3 := f3 p1
              have p1' : (j : Int) < b := by omega
              have p2 : ¬ (j : Int) = b := by omega
              have p3 : ¬ j = b := by omega
              cases s
              · clear f1 f2 f4 HBo HF o3
                go_wp2
                go_roundw
                case rel => exact ⟨j + 1, by omega, by go_num, (by repeat (with_reducible first | exact Below.refl _ _ | assumption | refine Below.al ?_ _ | refine Below.dr ?_ | refine Below.drn ?_ _ | refine Below.sc ?_ (by simp <;> omega) _ | refine Below.th ?_ (by assumption)))⟩
                case measure => simp [intOf]; omega
              · have f4 := f4 rfl p3
                have g3 : ¬ E.1 < C2 := by omega
                clear f1 f2 f4 HBo HF o3
                go_wp2
                go_roundw
                case rel => exact ⟨j + 1, by omega, by go_num, (by repeat (with_reducible first | exact Below.refl _ _ | assumption | refine Below.al ?_ _ | refine Below.dr ?_ | refine Below.drn ?_ _ | refine Below.sc ?_ (by simp <;> omega) _ | refine Below.th ?_ (by assumption)))⟩
                case measure => simp [intOf]; omega
            · have p1' : ¬ (j : Int) < b := by omega
              clear f3
              cases s
              · clear f1 f2 f4 HBo HF o3
                go_wp2
                go_roundw
                case rel => exact ⟨j + 1, by omega, by go_num, (by repeat (with_reducible first | exact Below.refl _ _ | assumption | refine Below.al ?_ _ | refine Below.dr ?_ | refine Below.drn ?_ _ | refine Below.sc ?_ (by simp <;> omega) _ | refine Below.th ?_ (by assumption)))⟩
                case measure => simp [intOf]; omega
              · by_cases p3 : j = b
                · subst p3
                  clear f1 f2 f4 HBo HF o3
                  go_wp2
                  go_roundw
                  case rel => exact ⟨j + 1, by omega, by go_num, (by repeat (with_reducible first | exact Below.refl _ _ | assumption | refine Below.al ?_ _ | refine Below.dr ?_ | refine Below.drn ?_ _ | refine Below.sc ?_ (by simp <;> omega) _ | refine Below.th ?_ (by assumption)))⟩
                  case measure => simp [intOf]; omega
                · have f4 := f4 rfl p3
                  have p2 : ¬ (j : Int) = b := by omega
                  have g3 : ¬ E.1 < C2 := by omega
                  clear f1 f2 f4 HBo HF o3
                  go_wp2
                  go_roundw
                  case rel => exact ⟨j + 1, by omega, by go_num, (by repeat (with_reducible first | exact Below.refl _ _ | assumption | refine Below.al ?_ _ | refine Below.dr ?_ | refine Below.drn ?_ _ | refine Below.sc ?_ (by simp <;> omega) _ | refine Below.th ?_ (by assumption)))⟩
                  case measure => simp [intOf]; omega
          · obtain rfl : j = L.length := by omega
            cases s
            · clear HF HBo o3
              go_wp2
              go_ret
              exact ⟨rfl, HBr⟩
            · have e := HBo.out rfl
              simp only [Prod.mk.injEq, true_and, and_true] at e
              subst e
              clear HF HBo o3
              go_wp2
              go_ret
              exact ⟨rfl, HBr⟩
  · rw [hg] at KG
    unfold rivV at *
    clear hc hg hBl
    go_enter Try.func7, Try.ntmps7
    go_wp2_with fail
    generalize (w.alloc (.cells #[.int .i64 m.d, .slice A0 m.a.length c0, .slice A1 m.b.length c1] 25)).alloc (.cells #[.int .i64 n, .int .i64 l, .int .i64 h] 27) = v at *
    refine (KA.out _).mono ?_
    rintro e v1 ⟨rfl, zb⟩
    have X0 := X0.be zb
    have X1 := X1.be zb
    have HC := Aside.mk (HC.out.be zb)
    have HB := Below.th HB0 zb
    have x0 := (X0.cell 0).trans (show _ = some (.int .i64 m.d) from rfl)
    have x1 := (X0.cell 1).trans (show _ = some (.slice A0 m.a.length c0) from rfl)
    have x2 := (X0.cell 2).trans (show _ = some (.slice A1 m.b.length c1) from rfl)
    have y0 := (X1.cell 0).trans (show _ = some (.int .i64 n) from rfl)
    have y1 := (X1.cell 1).trans (show _ = some (.int .i64 l) from rfl)
    have y2 := (X1.cell 2).trans (show _ = some (.int .i64 h) from rfl)
    clear zb HB0 KA
    go_wp2_with fail
    refine (KG.out _ HC.out).mono ?_
    rintro e v2 ⟨rfl, zb⟩
    have HB := Below.th HB zb
    go_wp2
    go_ret
    exact ⟨rfl, HB⟩
end Go.Proofs.Ytjbgdpbeabakiaa
