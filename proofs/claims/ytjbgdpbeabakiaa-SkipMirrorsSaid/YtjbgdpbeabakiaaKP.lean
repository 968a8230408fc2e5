/- The law SkipMirrors: its function answers true (Blank's contract handed in). -/
import Derived.Test.YtjbgdpbeabakiaaKJ
import Derived.Test.YtjbgdpbeabakiaaKQ
import Derived.Test.YtjbgdpbeabakiaaP2
import Derived.Test.YtjbgdpbeabakiaaP3
namespace Go.Proofs.Ytjbgdpbeabakiaa
open Go.RowKit Go.Shelf
set_option linter.unusedVariables false
set_option linter.unusedSimpArgs false
theorem stOk_wrap {n l h : Int} (l0 : -9223372036854775808 ≤ l) (l1 : l ≤ 9223372036854775807) (h0 : -9223372036854775808 ≤ h) (h1 : h ≤ 9223372036854775807) : stOk n (wrap64 (-l)) (wrap64 (1 - h)) = stOk n l h := by
  rw [Bool.eq_iff_iff]
  simp only [stOk, Bool.and_eq_true, inR_iff, wrap64]
  omega
/-- how Value and Styles answer, of rivals and of the turned ones -/
theorem mirror_cases (m : Riv) (n l h l' h' : Int) (hs : stOk n l' h' = stOk n l h) (ht : stOk n l h = true → l' = -l ∧ h' = 1 - h) :
    (valueV m n l h = .tuple #[.agg #[.int .i64 0, .int .i64 0], .int .i64 2] ∧ stylesR m n l h = ⟨[], 0, false, 2⟩ ∧ valueV (turnR m) n l' h' = .tuple #[.agg #[.int .i64 0, .int .i64 0], .int .i64 2] ∧ stylesR (turnR m) n l' h' = ⟨[], 0, false, 2⟩) ∨
    (∃ x, (x = 0 ∨ x = 65536) ∧ valueV m n l h = .tuple #[.agg #[.int .i64 x, .int .i64 x], .int .i64 0] ∧ stylesR m n l h = ⟨[], 0, false, 9⟩ ∧ valueV (turnR m) n l' h' = .tuple #[.agg #[.int .i64 (65536 - x), .int .i64 (65536 - x)], .int .i64 0] ∧ stylesR (turnR m) n l' h' = ⟨[], 0, false, 9⟩) ∨
    (∃ H L b s, L.length ≤ 8 ∧ InH H ∧ (∀ x ∈ L, InH x) ∧ valueV m n l h = .tuple #[.agg #[.int .i64 H.1, .int .i64 H.2], .int .i64 0] ∧ stylesR m n l h = ⟨L, b, s, 0⟩ ∧
      valueV (turnR m) n l' h' = .tuple #[.agg #[.int .i64 (65536 - H.2), .int .i64 (65536 - H.1)], .int .i64 0] ∧ stylesR (turnR m) n l' h' = ⟨L.map turnH, b, s, 0⟩) := by
  cases e1 : rivOk m && stOk n l h
  · have e2 : (rivOk (turnR m) && stOk n l' h') = false := by rw [turnR_ok, hs, e1]
    exact .inl ⟨by simp only [valueV]; rw [e1]; rfl, by simp only [stylesR]; rw [e1]; rfl, by simp only [valueV]; rw [e2]; rfl, by simp only [stylesR]; rw [e2]; rfl⟩
  · have e2 : (rivOk (turnR m) && stOk n l' h') = true := by rw [turnR_ok, hs, e1]
    have e3 := e1
    rw [Bool.and_eq_true] at e3
    obtain ⟨em, es⟩ := e3
    obtain ⟨rfl, rfl⟩ := ht es
    obtain ⟨⟨n0, n1⟩, ⟨l0, l1⟩, hh⟩ := stOk_iff es
    by_cases hn : n = 0 ∧ l ≠ 0
    · obtain ⟨rfl, hl⟩ := hn
      have hl' : ¬ -l = 0 := by omega
      refine .inr (.inl ⟨if 0 < l then 65536 else 0, by split <;> simp, ?_, ?_, ?_, ?_⟩)
      · simp only [valueV]; rw [e1, if_pos (by rfl)]
        by_cases hp : 0 < l <;> simp [hopeVal, hopeH, sureH, hl, hp]
      · simp only [stylesR]; rw [e1, if_pos (by rfl), if_pos (by simp [hl])]
      · simp only [valueV]; rw [e2, if_pos (by rfl)]
        by_cases hp : 0 < l
        · have : ¬ 0 < -l := by omega
          have : ¬ l < 0 := by omega
          simp [hopeVal, hopeH, sureH, hl', hp, this]
        · have : 0 < -l := by omega
          have : l < 0 := by omega
          simp [hopeVal, hopeH, sureH, hl', hp, this]
      · simp only [stylesR]; rw [e2, if_pos (by rfl), if_pos (by simp [hl])]
    · have L1 : 1 ≤ (stylesL m n.toNat l h).length := by rw [stylesL_len]; have := rivOk_st em h; omega
      have LT := firstI_lt (betH h) _ L1 _ (Nat.le_refl _)
      have ET := stylesL_turn em n.toNat l hh
      have EB : bestI (1 - h) (stylesL (turnR m) n.toNat (-l) (1 - h)) = bestI h (stylesL m n.toNat l h) := by rw [ET, bestI_turn hh _ L1]
      have ES : surelyB (1 - h) (stylesL (turnR m) n.toNat (-l) (1 - h)) (bestI (1 - h) (stylesL (turnR m) n.toNat (-l) (1 - h))) (stylesL (turnR m) n.toNat (-l) (1 - h)).length = surelyB h (stylesL m n.toNat l h) (bestI h (stylesL m n.toNat l h)) (stylesL m n.toNat l h).length := by
        rw [EB, ET, List.length_map]
        exact surelyB_turn hh _ LT _ (Nat.le_refl _)
      refine .inr (.inr ⟨hopeH m n.toNat l h, stylesL m n.toNat l h, bestI h (stylesL m n.toNat l h), surelyB h (stylesL m n.toNat l h) (bestI h (stylesL m n.toNat l h)) (stylesL m n.toNat l h).length, ?_, hopeH_in em _ _ _, ?_, ?_, ?_, ?_, ?_⟩)
      · rw [stylesL_len]; have := rivOk_st em h; omega
      · exact stylesH_in em n.toNat h (rowH_len _) (rowH_in fun p => stepH_in em n.toNat l h p)
      · simp only [valueV]; rw [e1, if_pos (by rfl)]; rfl
      · simp only [stylesR]; rw [e1, if_pos (by rfl), if_neg hn]
      · simp only [valueV]; rw [e2, if_pos (by rfl), hopeH_turn em n.toNat l h hh]; rfl
      · simp only [stylesR]; rw [e2, if_pos (by rfl), if_neg (by omega), ES, EB, ET]
/-- the same in one form -/
theorem mirror_law (m : Riv) (n l h l' h' : Int) (hs : stOk n l' h' = stOk n l h) (ht : stOk n l h = true → l' = -l ∧ h' = 1 - h) :
    ∃ a1 a2 b1 b2 ee L L' b s er, valueV m n l h = .tuple #[.agg #[.int .i64 a1, .int .i64 a2], .int .i64 ee] ∧ valueV (turnR m) n l' h' = .tuple #[.agg #[.int .i64 b1, .int .i64 b2], .int .i64 ee] ∧ stylesR m n l h = ⟨L, b, s, er⟩ ∧ stylesR (turnR m) n l' h' = ⟨L', b, s, er⟩ ∧ L'.length = L.length ∧ L.length ≤ 8 ∧
      (ee = 2 ∨ (ee = 0 ∧ (b1 = 65536 - a2 ∧ b2 = 65536 - a1) ∧ ((0 ≤ a1 ∧ a1 ≤ 65536) ∧ 0 ≤ a2 ∧ a2 ≤ 65536) ∧ ∀ i, (h1 : i < L.length) → (h2 : i < L'.length) → InH L[i] ∧ L'[i] = turnH L[i])) := by
  rcases mirror_cases m n l h l' h' hs ht with ⟨e1, e2, e3, e4⟩ | ⟨x, hx, e1, e2, e3, e4⟩ | ⟨H, L, b, s, hl, hH, hL, e1, e2, e3, e4⟩
  · exact ⟨_, _, _, _, _, _, _, _, _, _, e1, e3, e2, e4, rfl, by simp, .inl rfl⟩
  · exact ⟨_, _, _, _, _, _, _, _, _, _, e1, e3, e2, e4, rfl, by simp, .inr ⟨rfl, ⟨rfl, rfl⟩, by omega, fun i h1 => by simp at h1⟩⟩
  · exact ⟨_, _, _, _, _, _, _, _, _, _, e1, e3, e2, e4, by simp, hl, .inr ⟨rfl, ⟨rfl, rfl⟩, hH, fun i h1 h2 => ⟨hL _ (List.getElem_mem h1), by simp⟩⟩⟩
set_option maxHeartbeats 8000000 in
set_option maxRecDepth 100000 in
theorem SkipMirrors_c (hBl : BlankOk) (A0 A1 : Option Addr) (c0 c1 : Nat) (m : Riv) (n l h : Int) (w : World) (hc : Came w A0 A1 m) (l0 : -9223372036854775808 ≤ l) (l1 : l ≤ 9223372036854775807) (h0 : -9223372036854775808 ≤ h) (h1 : h ≤ 9223372036854775807) :
    Calls Try.prog 6 #[rivV m A0 A1 c0 c1, .agg #[.int .i64 n, .int .i64 l, .int .i64 h]] w fun e w' => e = .returned (.bool true) ∧ Below w.heap.size w w' := by
  have KA := Aside.mk (alive_c hBl)
  have KG := Aside.mk (fun w (h' : Came w A0 A1 m) => long_c A0 A1 c0 c1 m n l h 4 w h'.ra h'.rb h'.la h'.lb h'.ca h'.cb)
  have HB0 : Below w.heap.size w ((w.alloc (.cells #[.int .i64 m.d, .slice A0 m.a.length c0, .slice A1 m.b.length c1] 25)).alloc (.cells #[.int .i64 n, .int .i64 l, .int .i64 h] 27)) := (by repeat (with_reducible first | exact Below.refl _ _ | assumption | refine Below.al ?_ _ | refine Below.dr ?_ | refine Below.drn ?_ _ | refine Below.sc ?_ (by simp <;> omega) _ | refine Below.th ?_ (by assumption)))
  have X0 : Blk ((w.alloc (.cells #[.int .i64 m.d, .slice A0 m.a.length c0, .slice A1 m.b.length c1] 25)).alloc (.cells #[.int .i64 n, .int .i64 l, .int .i64 h] 27)) w.heap.size #[.int .i64 m.d, .slice A0 m.a.length c0, .slice A1 m.b.length c1] 25 := (Blk.fresh _ _ _).al _
  have X1 : Blk ((w.alloc (.cells #[.int .i64 m.d, .slice A0 m.a.length c0, .slice A1 m.b.length c1] 25)).alloc (.cells #[.int .i64 n, .int .i64 l, .int .i64 h] 27)) (w.heap.size + 1) #[.int .i64 n, .int .i64 l, .int .i64 h] 27 := Blk.fresh' (by simp)
  have HC := Aside.mk (hc.be HB0)
  cases hg : (greatB m || (decide (4 < n) && decide (n ≤ 12)))
  · have hgr : greatB m = false := by
      cases e : greatB m
      · rfl
      · rw [e] at hg; simp at hg
    rw [hg] at KG
    have HCA : Aside (∀ w, Came w A0 A1 m → Args w A0 A1 m) := ⟨fun w hc => hc.args hgr⟩
    have HCT : ∀ w, Args w A0 A1 m → Args w A1 A0 (turnR m) := fun w ha => ⟨ha.rb, ha.ra, ha.sb, ha.sa, ha.lb, ha.la⟩
    have KV := Aside.mk (fun w (ha : Args w A0 A1 m) => Value_c A0 A1 c0 c1 m n l h w ha)
    have KS := Aside.mk (fun w (ha : Args w A0 A1 m) => Styles_c A0 A1 c0 c1 m n l h w ha)
    have KVT := Aside.mk (fun (l' h' : Int) w (ha : Args w A0 A1 m) => Value_c A1 A0 c1 c0 (turnR m) n l' h' w (HCT w ha))
    have KST := Aside.mk (fun (l' h' : Int) w (ha : Args w A0 A1 m) => Styles_c A1 A0 c1 c0 (turnR m) n l' h' w (HCT w ha))
    have hst : stOk n l h = false ∨ stOk n l h = true := by cases stOk n l h <;> simp
    have HW := Lib.hid (stOk_wrap (n := n) l0 l1 h0 h1)
    unfold rivV StylesRet at *
    simp only [turnR] at KVT KST
    clear hc hg hgr hBl HCT l0 l1 h0 h1
    rcases hst with es | es
    · skip
      have CS := Aside.mk (mirror_law m n l h (wrap64 (-l)) (wrap64 (1 - h)) HW.out (fun e => by rw [es] at e; cases e))
      have ES := Lib.hid es
      clear es
      go_enter Try.func6, Try.ntmps6
      go_wp2_with fail
      generalize (w.alloc (.cells #[.int .i64 m.d, .slice A0 m.a.length c0, .slice A1 m.b.length c1] 25)).alloc (.cells #[.int .i64 n, .int .i64 l, .int .i64 h] 27) = v at *
      refine (KA.out _).mono ?_
      rintro e v1 ⟨rfl, zb⟩
      have X0 := X0.be zb
      have X1 := X1.be zb
      have HC := Aside.mk (HC.out.be zb)
      have HB := Below.th HB0 zb
      obtain ⟨x0, x1, x2⟩ := X0.three
      obtain ⟨y0, y1, y2⟩ := X1.three
      clear zb HB0 KA
      go_wp2_with fail
      refine (KG.out _ HC.out).mono ?_
      rintro e v2 ⟨rfl, zb⟩
      have X0 := X0.be zb
      have X1 := X1.be zb
      have HR := HCA.out _ (HC.out.be zb)
      have HB := Below.th HB zb
      obtain ⟨x0, x1, x2⟩ := X0.three
      obtain ⟨y0, y1, y2⟩ := X1.three
      clear zb KG HC HCA
      go_wp2_with fail
      have hal : Below v2.heap.size v2 (v2.alloc (.cells #[.int .i64 m.d, .slice A0 m.a.length c0, .slice A1 m.b.length c1] 25)) := (by repeat (with_reducible first | exact Below.refl _ _ | assumption | refine Below.al ?_ _ | refine Below.dr ?_ | refine Below.drn ?_ _ | refine Below.sc ?_ (by simp <;> omega) _ | refine Below.th ?_ (by assumption)))
      have hz2 : w.heap.size + 1 < v2.heap.size := X1.lt
      have HS2 := Aside.mk (And.intro X0 (And.intro X1 (And.intro HR HB)))
      have X2 := Blk.fresh v2 #[.int .i64 m.d, .slice A0 m.a.length c0, .slice A1 m.b.length c1] 25
      have X0 := X0.be hal
      clear x0 x1 x2 y0 y1 y2 X1 HR HB
      obtain ⟨x0, x1, x2⟩ := X0.three
      obtain ⟨t0, t1, t2⟩ := X2.three
      have f1 := X2.frozen 1
      have f2 := X2.frozen 2
      have hB3 := Aside.mk (show Below v2.heap.size v2 (((v2.alloc (.cells #[.int .i64 m.d, .slice A0 m.a.length c0, .slice A1 m.b.length c1] 25)).setCell ⟨v2.heap.size, 1, none⟩ (.slice A1 m.b.length c1)).setCell ⟨v2.heap.size, 2, none⟩ (.slice A0 m.a.length c0)).drew from (by repeat (with_reducible first | exact Below.refl _ _ | assumption | refine Below.al ?_ _ | refine Below.dr ?_ | refine Below.drn ?_ _ | refine Below.sc ?_ (by simp <;> omega) _ | refine Below.th ?_ (by assumption))))
      have X2 := ((X2.set 1 (.slice A1 m.b.length c1)).set 2 (.slice A0 m.a.length c0)).dr
      simp at X2
      clear hal X0
      generalize v2.alloc (.cells #[.int .i64 m.d, .slice A0 m.a.length c0, .slice A1 m.b.length c1] 25) = v3 at *
      have n1 : ¬ w.heap.size = v2.heap.size ∧ ¬ v2.heap.size = w.heap.size := by omega
      obtain ⟨n1a, n1b⟩ := n1
      go_region
      obtain ⟨X0, X1, HR, HB⟩ := HS2.out
      have hB3 := hB3.out
      generalize ((v3.setCell ⟨v2.heap.size, 1, none⟩ (.slice A1 m.b.length c1)).setCell ⟨v2.heap.size, 2, none⟩ (.slice A0 m.a.length c0)).drew = v4 at *
      have X0 := X0.be hB3
      have X1 := X1.be hB3
      have HR := HR.be hB3
      have HB := Below.th HB hB3
      clear x0 x1 x2 t0 t1 t2 f1 f2 hB3 HS2 n1a n1b
      obtain ⟨x0, x1, x2⟩ := X0.three
      obtain ⟨y0, y1, y2⟩ := X1.three
      obtain ⟨t0, t1, t2⟩ := X2.three
      generalize v2.heap.size = tB at *
      have X0 := X0.al (.cells #[.int .i64 n, .int .i64 (wrap64 (-l)), .int .i64 (wrap64 (1 - h))] 27)
      have X1 := X1.al (.cells #[.int .i64 n, .int .i64 (wrap64 (-l)), .int .i64 (wrap64 (1 - h))] 27)
      have X2 := X2.al (.cells #[.int .i64 n, .int .i64 (wrap64 (-l)), .int .i64 (wrap64 (1 - h))] 27)
      have X3 := Blk.fresh v4 #[.int .i64 n, .int .i64 (wrap64 (-l)), .int .i64 (wrap64 (1 - h))] 27
      have HR := HR.be (Below.al (Below.refl _ _) (.cells #[.int .i64 n, .int .i64 (wrap64 (-l)), .int .i64 (wrap64 (1 - h))] 27))
      have HB := Below.al HB (.cells #[.int .i64 n, .int .i64 (wrap64 (-l)), .int .i64 (wrap64 (1 - h))] 27)
      have KVT := Aside.mk (KVT.out (wrap64 (-l)) (wrap64 (1 - h)))
      have KST := Aside.mk (KST.out (wrap64 (-l)) (wrap64 (1 - h)))
      obtain ⟨x0', x1', x2'⟩ := X0.three
      obtain ⟨y0', y1', y2'⟩ := X1.three
      obtain ⟨t0', t1', t2'⟩ := X2.three
      obtain ⟨s0, s1, s2⟩ := X3.three
      go_wp2_with fail
      refine (KV.out _ HR).mono ?_
      rintro e v5 ⟨rfl, zb⟩
      have X0 := X0.be zb
      have X1 := X1.be zb
      have X2 := X2.be zb
      have X3 := X3.be zb
      have HR := HR.be zb
      have HB := Below.th HB zb
      have sX := X3.lt
      clear zb KV x0 x1 x2 y0 y1 y2 t0 t1 t2 s0 s1 s2 x0' x1' x2' y0' y1' y2' t0' t1' t2'
      generalize v4.heap.size = sB at *
      obtain ⟨a1, a2, b1, b2, ee, L, L', b, s, er, ev, ev', es, es', hll, hl8, HL⟩ := CS.out
      simp only [turnR] at ev' es'
      rw [ev]
      have KS := KS.out
      have KVT := KVT.out
      have KST := KST.out
      rw [es] at KS
      rw [ev'] at KVT
      rw [es', hll] at KST
      have KS := Aside.mk KS
      have KVT := Aside.mk KVT
      have KST := Aside.mk KST
      have HL := Lib.hid HL
      have HLL := Lib.hid hll
      clear CS ev ev' es es' hll
      have A := Blk.fresh v5 #[.int .i64 a1, .int .i64 a2] 43
      have X0 := X0.al (.cells #[.int .i64 a1, .int .i64 a2] 43)
      have X1 := X1.al (.cells #[.int .i64 a1, .int .i64 a2] 43)
      have X2 := X2.al (.cells #[.int .i64 a1, .int .i64 a2] 43)
      have X3 := X3.al (.cells #[.int .i64 a1, .int .i64 a2] 43)
      have HR := HR.be (Below.al (Below.refl _ _) (.cells #[.int .i64 a1, .int .i64 a2] 43))
      have HB := Below.al HB (.cells #[.int .i64 a1, .int .i64 a2] 43)
      obtain ⟨t0, t1, t2⟩ := X2.three
      obtain ⟨s0, s1, s2⟩ := X3.three
      go_wp2_with fail
      refine (KVT.out _ HR).mono ?_
      rintro e v6 ⟨rfl, zb⟩
      have B := Blk.fresh v6 #[.int .i64 b1, .int .i64 b2] 43
      have A := (A.be zb).al (.cells #[.int .i64 b1, .int .i64 b2] 43)
      have X0 := (X0.be zb).al (.cells #[.int .i64 b1, .int .i64 b2] 43)
      have X1 := (X1.be zb).al (.cells #[.int .i64 b1, .int .i64 b2] 43)
      have X2 := (X2.be zb).al (.cells #[.int .i64 b1, .int .i64 b2] 43)
      have X3 := (X3.be zb).al (.cells #[.int .i64 b1, .int .i64 b2] 43)
      have HR := (HR.be zb).be (Below.al (Below.refl _ _) (.cells #[.int .i64 b1, .int .i64 b2] 43))
      have HB := Below.al (Below.th HB zb) (.cells #[.int .i64 b1, .int .i64 b2] 43)
      clear zb KVT t0 t1 t2 s0 s1 s2
      obtain ⟨x0, x1, x2⟩ := X0.three
      obtain ⟨y0, y1, y2⟩ := X1.three
      go_wp2_with fail
      refine (KS.out _ HR).mono ?_
      rintro e v7 ⟨AL, cL, rfl, har, _, _, zb⟩
      have A := A.be zb
      have B := B.be zb
      have X2 := X2.be zb
      have X3 := X3.be zb
      have HR := HR.be zb
      have HB := Below.th HB zb
      clear zb KS x0 x1 x2 y0 y1 y2 X0 X1
      obtain ⟨t0, t1, t2⟩ := X2.three
      obtain ⟨s0, s1, s2⟩ := X3.three
      go_wp2_with fail
      refine (KST.out _ HR).mono ?_
      rintro e v8 ⟨AT, cT, rfl, hart, _, _, zb⟩
      have A8 := A.be zb
      have B8 := B.be zb
      have har := har.below zb
      have HB8 := Below.th HB zb
      clear zb KST t0 t1 t2 s0 s1 s2 X2 X3 HR
      generalize v5.heap.size = aB at *
      generalize v6.heap.size = bB at *
      obtain ⟨p0, p1⟩ := A8.two
      obtain ⟨q0, q1⟩ := B8.two
      rcases HL.out with rfl | ⟨rfl, ⟨rfl, rfl⟩, ⟨⟨i0, i1⟩, i2, i3⟩, HI⟩
      · clear HL
        go_wp2
        go_ret
        exact ⟨rfl, HB8⟩
      · have HI := Aside.mk HI
        clear HL
        go_wp2_with fail
        go_loopw [114] (fun i wr => ∃ j : Nat, j ≤ L.length ∧ i = .int .i64 j ∧ Below v8.heap.size v8 wr) (fun i _ => L.length - (intOf i).toNat)
        case atStart => exact ⟨0, by omega, rfl, Below.refl _ _⟩
        case round =>
          obtain ⟨j, hj, rfl, hB⟩ := hrel
          have HBr := Below.th HB8 hB
          have A := A8.be hB
          have B := B8.be hB
          by_cases hlt : j < L.length
          · obtain ⟨bk, o, rfl, hb', hcx, hcy⟩ := hopes_at (har.below hB) hlt
            have hlt' : j < L'.length := by have := HLL.out; omega
            obtain ⟨bk', o', rfl, hb'', hdx, hdy⟩ := hopes_at (hart.below hB) hlt'
            obtain ⟨⟨⟨i4, i5⟩, i6, i7⟩, e⟩ := HI.out j hlt hlt'
            rw [e] at hdx hdy
            simp only [turnH] at hdx hdy
            clear e hlt' p0 p1 q0 q1
            generalize L[j] = E at *
            go_wp2_with fail
            go_quiet (fail)
            go_wp2_with fail
            go_roundw
            case rel => exact ⟨j + 1, by omega, by go_num, (by repeat (with_reducible first | exact Below.refl _ _ | assumption | refine Below.al ?_ _ | refine Below.dr ?_ | refine Below.drn ?_ _ | refine Below.sc ?_ (by simp <;> omega) _ | refine Below.th ?_ (by assumption)))⟩
            case measure => simp [intOf]; omega
          · obtain rfl : j = L.length := by omega
            have p0 := A.two.1
            have p1 := A.two.2
            have q0 := B.two.1
            have q1 := B.two.2
            go_wp2
            go_ret
            exact ⟨rfl, HBr⟩
    · obtain ⟨_, ⟨l0, l1⟩, hh⟩ := stOk_iff es
      have h0 : 0 ≤ h := by omega
      have h1 : h ≤ 1 := by omega
      clear hh
      have CS := Aside.mk (mirror_law m n l h (-l) (1 - h) (stOk_turn n l h) (fun _ => ⟨rfl, rfl⟩))
      have ES := Lib.hid es
      clear es
      go_enter Try.func6, Try.ntmps6
      go_wp2_with fail
      generalize (w.alloc (.cells #[.int .i64 m.d, .slice A0 m.a.length c0, .slice A1 m.b.length c1] 25)).alloc (.cells #[.int .i64 n, .int .i64 l, .int .i64 h] 27) = v at *
      refine (KA.out _).mono ?_
      rintro e v1 ⟨rfl, zb⟩
      have X0 := X0.be zb
      have X1 := X1.be zb
      have HC := Aside.mk (HC.out.be zb)
      have HB := Below.th HB0 zb
      obtain ⟨x0, x1, x2⟩ := X0.three
      obtain ⟨y0, y1, y2⟩ := X1.three
      clear zb HB0 KA
      go_wp2_with fail
      refine (KG.out _ HC.out).mono ?_
      rintro e v2 ⟨rfl, zb⟩
      have X0 := X0.be zb
      have X1 := X1.be zb
      have HR := HCA.out _ (HC.out.be zb)
      have HB := Below.th HB zb
      obtain ⟨x0, x1, x2⟩ := X0.three
      obtain ⟨y0, y1, y2⟩ := X1.three
      clear zb KG HC HCA
      go_wp2_with fail
      have hal : Below v2.heap.size v2 (v2.alloc (.cells #[.int .i64 m.d, .slice A0 m.a.length c0, .slice A1 m.b.length c1] 25)) := (by repeat (with_reducible first | exact Below.refl _ _ | assumption | refine Below.al ?_ _ | refine Below.dr ?_ | refine Below.drn ?_ _ | refine Below.sc ?_ (by simp <;> omega) _ | refine Below.th ?_ (by assumption)))
      have hz2 : w.heap.size + 1 < v2.heap.size := X1.lt
      have HS2 := Aside.mk (And.intro X0 (And.intro X1 (And.intro HR HB)))
      have X2 := Blk.fresh v2 #[.int .i64 m.d, .slice A0 m.a.length c0, .slice A1 m.b.length c1] 25
      have X0 := X0.be hal
      clear x0 x1 x2 y0 y1 y2 X1 HR HB
      obtain ⟨x0, x1, x2⟩ := X0.three
      obtain ⟨t0, t1, t2⟩ := X2.three
      have f1 := X2.frozen 1
      have f2 := X2.frozen 2
      have hB3 := Aside.mk (show Below v2.heap.size v2 (((v2.alloc (.cells #[.int .i64 m.d, .slice A0 m.a.length c0, .slice A1 m.b.length c1] 25)).setCell ⟨v2.heap.size, 1, none⟩ (.slice A1 m.b.length c1)).setCell ⟨v2.heap.size, 2, none⟩ (.slice A0 m.a.length c0)).drew from (by repeat (with_reducible first | exact Below.refl _ _ | assumption | refine Below.al ?_ _ | refine Below.dr ?_ | refine Below.drn ?_ _ | refine Below.sc ?_ (by simp <;> omega) _ | refine Below.th ?_ (by assumption))))
      have X2 := ((X2.set 1 (.slice A1 m.b.length c1)).set 2 (.slice A0 m.a.length c0)).dr
      simp at X2
      clear hal X0
      generalize v2.alloc (.cells #[.int .i64 m.d, .slice A0 m.a.length c0, .slice A1 m.b.length c1] 25) = v3 at *
      have n1 : ¬ w.heap.size = v2.heap.size ∧ ¬ v2.heap.size = w.heap.size := by omega
      obtain ⟨n1a, n1b⟩ := n1
      go_region
      obtain ⟨X0, X1, HR, HB⟩ := HS2.out
      have hB3 := hB3.out
      generalize ((v3.setCell ⟨v2.heap.size, 1, none⟩ (.slice A1 m.b.length c1)).setCell ⟨v2.heap.size, 2, none⟩ (.slice A0 m.a.length c0)).drew = v4 at *
      have X0 := X0.be hB3
      have X1 := X1.be hB3
      have HR := HR.be hB3
      have HB := Below.th HB hB3
      clear x0 x1 x2 t0 t1 t2 f1 f2 hB3 HS2 n1a n1b
      obtain ⟨x0, x1, x2⟩ := X0.three
      obtain ⟨y0, y1, y2⟩ := X1.three
      obtain ⟨t0, t1, t2⟩ := X2.three
      generalize v2.heap.size = tB at *
      have X0 := X0.al (.cells #[.int .i64 n, .int .i64 (-l), .int .i64 (1 - h)] 27)
      have X1 := X1.al (.cells #[.int .i64 n, .int .i64 (-l), .int .i64 (1 - h)] 27)
      have X2 := X2.al (.cells #[.int .i64 n, .int .i64 (-l), .int .i64 (1 - h)] 27)
      have X3 := Blk.fresh v4 #[.int .i64 n, .int .i64 (-l), .int .i64 (1 - h)] 27
      have HR := HR.be (Below.al (Below.refl _ _) (.cells #[.int .i64 n, .int .i64 (-l), .int .i64 (1 - h)] 27))
      have HB := Below.al HB (.cells #[.int .i64 n, .int .i64 (-l), .int .i64 (1 - h)] 27)
      have KVT := Aside.mk (KVT.out (-l) (1 - h))
      have KST := Aside.mk (KST.out (-l) (1 - h))
      obtain ⟨x0', x1', x2'⟩ := X0.three
      obtain ⟨y0', y1', y2'⟩ := X1.three
      obtain ⟨t0', t1', t2'⟩ := X2.three
      obtain ⟨s0, s1, s2⟩ := X3.three
      go_wp2_with fail
      refine (KV.out _ HR).mono ?_
      rintro e v5 ⟨rfl, zb⟩
      have X0 := X0.be zb
      have X1 := X1.be zb
      have X2 := X2.be zb
      have X3 := X3.be zb
      have HR := HR.be zb
      have HB := Below.th HB zb
      have sX := X3.lt
      clear zb KV x0 x1 x2 y0 y1 y2 t0 t1 t2 s0 s1 s2 x0' x1' x2' y0' y1' y2' t0' t1' t2'
      generalize v4.heap.size = sB at *
      obtain ⟨a1, a2, b1, b2, ee, L, L', b, s, er, ev, ev', es, es', hll, hl8, HL⟩ := CS.out
      simp only [turnR] at ev' es'
      rw [ev]
      have KS := KS.out
      have KVT := KVT.out
      have KST := KST.out
      rw [es] at KS
      rw [ev'] at KVT
      rw [es', hll] at KST
      have KS := Aside.mk KS
      have KVT := Aside.mk KVT
      have KST := Aside.mk KST
      have HL := Lib.hid HL
      have HLL := Lib.hid hll
      clear CS ev ev' es es' hll
      have A := Blk.fresh v5 #[.int .i64 a1, .int .i64 a2] 43
      have X0 := X0.al (.cells #[.int .i64 a1, .int .i64 a2] 43)
      have X1 := X1.al (.cells #[.int .i64 a1, .int .i64 a2] 43)
      have X2 := X2.al (.cells #[.int .i64 a1, .int .i64 a2] 43)
      have X3 := X3.al (.cells #[.int .i64 a1, .int .i64 a2] 43)
      have HR := HR.be (Below.al (Below.refl _ _) (.cells #[.int .i64 a1, .int .i64 a2] 43))
      have HB := Below.al HB (.cells #[.int .i64 a1, .int .i64 a2] 43)
      obtain ⟨t0, t1, t2⟩ := X2.three
      obtain ⟨s0, s1, s2⟩ := X3.three
      go_wp2_with fail
      refine (KVT.out _ HR).mono ?_
      rintro e v6 ⟨rfl, zb⟩
      have B := Blk.fresh v6 #[.int .i64 b1, .int .i64 b2] 43
      have A := (A.be zb).al (.cells #[.int .i64 b1, .int .i64 b2] 43)
      have X0 := (X0.be zb).al (.cells #[.int .i64 b1, .int .i64 b2] 43)
      have X1 := (X1.be zb).al (.cells #[.int .i64 b1, .int .i64 b2] 43)
      have X2 := (X2.be zb).al (.cells #[.int .i64 b1, .int .i64 b2] 43)
      have X3 := (X3.be zb).al (.cells #[.int .i64 b1, .int .i64 b2] 43)
      have HR := (HR.be zb).be (Below.al (Below.refl _ _) (.cells #[.int .i64 b1, .int .i64 b2] 43))
      have HB := Below.al (Below.th HB zb) (.cells #[.int .i64 b1, .int .i64 b2] 43)
      clear zb KVT t0 t1 t2 s0 s1 s2
      obtain ⟨x0, x1, x2⟩ := X0.three
      obtain ⟨y0, y1, y2⟩ := X1.three
      go_wp2_with fail
      refine (KS.out _ HR).mono ?_
      rintro e v7 ⟨AL, cL, rfl, har, _, _, zb⟩
      have A := A.be zb
      have B := B.be zb
      have X2 := X2.be zb
      have X3 := X3.be zb
      have HR := HR.be zb
      have HB := Below.th HB zb
      clear zb KS x0 x1 x2 y0 y1 y2 X0 X1
      obtain ⟨t0, t1, t2⟩ := X2.three
      obtain ⟨s0, s1, s2⟩ := X3.three
      go_wp2_with fail
      refine (KST.out _ HR).mono ?_
      rintro e v8 ⟨AT, cT, rfl, hart, _, _, zb⟩
      have A8 := A.be zb
      have B8 := B.be zb
      have har := har.below zb
      have HB8 := Below.th HB zb
      clear zb KST t0 t1 t2 s0 s1 s2 X2 X3 HR
      generalize v5.heap.size = aB at *
      generalize v6.heap.size = bB at *
      obtain ⟨p0, p1⟩ := A8.two
      obtain ⟨q0, q1⟩ := B8.two
      rcases HL.out with rfl | ⟨rfl, ⟨rfl, rfl⟩, ⟨⟨i0, i1⟩, i2, i3⟩, HI⟩
      · clear HL
        go_wp2
        go_ret
        exact ⟨rfl, HB8⟩
      · have HI := Aside.mk HI
        clear HL
        go_wp2_with fail
        go_loopw [114] (fun i wr => ∃ j : Nat, j ≤ L.length ∧ i = .int .i64 j ∧ Below v8.heap.size v8 wr) (fun i _ => L.length - (intOf i).toNat)
        case atStart => exact ⟨0, by omega, rfl, Below.refl _ _⟩
        case round =>
          obtain ⟨j, hj, rfl, hB⟩ := hrel
          have HBr := Below.th HB8 hB
          have A := A8.be hB
          have B := B8.be hB
          by_cases hlt : j < L.length
          · obtain ⟨bk, o, rfl, hb', hcx, hcy⟩ := hopes_at (har.below hB) hlt
            have hlt' : j < L'.length := by have := HLL.out; omega
            obtain ⟨bk', o', rfl, hb'', hdx, hdy⟩ := hopes_at (hart.below hB) hlt'
            obtain ⟨⟨⟨i4, i5⟩, i6, i7⟩, e⟩ := HI.out j hlt hlt'
            rw [e] at hdx hdy
            simp only [turnH] at hdx hdy
            clear e hlt' p0 p1 q0 q1
            generalize L[j] = E at *
            go_wp2_with fail
            go_quiet (fail)
            go_wp2_with fail
            go_roundw
            case rel => exact ⟨j + 1, by omega, by go_num, (by repeat (with_reducible first | exact Below.refl _ _ | assumption | refine Below.al ?_ _ | refine Below.dr ?_ | refine Below.drn ?_ _ | refine Below.sc ?_ (by simp <;> omega) _ | refine Below.th ?_ (by assumption)))⟩
            case measure => simp [intOf]; omega
          · obtain rfl : j = L.length := by omega
            have p0 := A.two.1
            have p1 := A.two.2
            have q0 := B.two.1
            have q1 := B.two.2
            go_wp2
            go_ret
            exact ⟨rfl, HBr⟩
  · rw [hg] at KG
    unfold rivV at *
    clear hc hg hBl
    go_enter Try.func6, Try.ntmps6
    go_wp2_with fail
    generalize (w.alloc (.cells #[.int .i64 m.d, .slice A0 m.a.length c0, .slice A1 m.b.length c1] 25)).alloc (.cells #[.int .i64 n, .int .i64 l, .int .i64 h] 27) = v at *
    refine (KA.out _).mono ?_
    rintro e v1 ⟨rfl, zb⟩
    have X0 := X0.be zb
    have X1 := X1.be zb
    have HC := Aside.mk (HC.out.be zb)
    have HB := Below.th HB0 zb
    obtain ⟨x0, x1, x2⟩ := X0.three
    obtain ⟨y0, y1, y2⟩ := X1.three
    clear zb HB0 KA
    go_wp2_with fail
    refine (KG.out _ HC.out).mono ?_
    rintro e v2 ⟨rfl, zb⟩
    have HB := Below.th HB zb
    go_wp2
    go_ret
    exact ⟨rfl, HB⟩
end Go.Proofs.Ytjbgdpbeabakiaa
