/- The law SkipLeads: its function answers true (Blank's contract handed in). -/
import Derived.Test.YtjbgdpbeabakiaaKS
namespace Go.Proofs.Ytjbgdpbeabakiaa
open Go.RowKit Go.Shelf
set_option linter.unusedVariables false
set_option linter.unusedSimpArgs false
theorem great_len {m : Riv} (h : greatB m = false) : m.a.length ≤ 9 ∧ m.b.length ≤ 9 := by
  simp only [greatB, Bool.or_eq_false_iff] at h
  obtain ⟨⟨⟨ha0, _⟩, hb0⟩, _⟩ := h
  simp [manyB] at ha0 hb0
  omega
set_option maxHeartbeats 8000000 in
set_option maxRecDepth 100000 in
theorem SkipLeads_c (hBl : BlankOk) (A0 A1 As : Option Addr) (c0 c1 cs N : Nat) (m : Riv) (n l h x : Int) (st : List Int) (hN : st.length = N) (w : World) (hc : Came w A0 A1 m) (hs : Arr w As (ints st)) (hx0 : 0 ≤ x) (hx1 : x ≤ 255) :
    Calls Try.prog 5 #[rivV m A0 A1 c0 c1, .agg #[.int .i64 n, .int .i64 l, .int .i64 h], .int .u8 x, .slice As N cs] w fun e w' => e = .returned (.bool true) ∧ Below w.heap.size w w' := by
  obtain ⟨iR, hiR, hzR0, hzR1, hzR2⟩ := info_parts Try.infoR
  have KA := Aside.mk (alive_c hBl)
  have KG := Aside.mk (fun w (h' : Came w A0 A1 m) => long_c A0 A1 c0 c1 m n l h 3 w h'.ra h'.rb h'.la h'.lb h'.ca h'.cb)
  have HB0 : Below w.heap.size w ((w.alloc (.cells #[.int .i64 m.d, .slice A0 m.a.length c0, .slice A1 m.b.length c1] 25)).alloc (.cells #[.int .i64 n, .int .i64 l, .int .i64 h] 27)) := (by repeat (with_reducible first | exact Below.refl _ _ | assumption | refine Below.al ?_ _ | refine Below.dr ?_ | refine Below.drn ?_ _ | refine Below.sc ?_ (by simp <;> omega) _ | refine Below.th ?_ (by assumption)))
  have X0 : Blk ((w.alloc (.cells #[.int .i64 m.d, .slice A0 m.a.length c0, .slice A1 m.b.length c1] 25)).alloc (.cells #[.int .i64 n, .int .i64 l, .int .i64 h] 27)) w.heap.size #[.int .i64 m.d, .slice A0 m.a.length c0, .slice A1 m.b.length c1] 25 := (Blk.fresh _ _ _).al _
  have X1 : Blk ((w.alloc (.cells #[.int .i64 m.d, .slice A0 m.a.length c0, .slice A1 m.b.length c1] 25)).alloc (.cells #[.int .i64 n, .int .i64 l, .int .i64 h] 27)) (w.heap.size + 1) #[.int .i64 n, .int .i64 l, .int .i64 h] 27 := Blk.fresh' (by simp)
  have HC := Aside.mk (hc.be HB0)
  cases hg : (greatB m || (decide (3 < n) && decide (n ≤ 12)))
  · have hgr : greatB m = false := by
      cases e : greatB m
      · rfl
      · rw [e] at hg; simp at hg
    rw [hg] at KG
    have HCA : Aside (∀ w, Came w A0 A1 m → Args w A0 A1 m) := ⟨fun w hc => hc.args hgr⟩
    obtain ⟨la9, lb9⟩ := great_len hgr
    have HL9 := Lib.hid (And.intro la9 lb9)
    by_cases hlong : 60 < N
    · have hlong' : (60 : Int) < N := by omega
      unfold rivV at *
      clear hc hg hBl HCA hgr la9 lb9 hN
      go_enter Try.func5, Try.ntmps5
      go_wp2_with fail
      generalize (w.alloc (.cells #[.int .i64 m.d, .slice A0 m.a.length c0, .slice A1 m.b.length c1] 25)).alloc (.cells #[.int .i64 n, .int .i64 l, .int .i64 h] 27) = v at *
      refine (KA.out _).mono ?_
      rintro e v1 ⟨rfl, zb⟩
      have X0 := X0.be zb
      have X1 := X1.be zb
      have HC := Aside.mk (HC.out.be zb)
      have HB := Below.th HB0 zb
      obtain ⟨x0, x1, x2⟩ := X0.three
      obtain ⟨y0, y1, y2⟩ := X1.three
      clear zb HB0 KA
      go_wp2_with fail
      refine (KG.out _ HC.out).mono ?_
      rintro e v2 ⟨rfl, zb⟩
      have HB := Below.th HB zb
      go_wp2
      go_ret
      exact ⟨rfl, HB⟩
    · subst hN
      have h60 : st.length ≤ 60 := by omega
      have h60' : ¬ (60 : Int) < st.length := by omega
      have KV := Aside.mk (fun w (ha : Args w A0 A1 m) => Value_c A0 A1 c0 c1 m n l h w ha)
      have KVL := Aside.mk (fun (l' : Int) w (ha : Args w A0 A1 m) => Value_c A0 A1 c0 c1 m n l' h w ha)
      have KCP := Aside.mk (fun w (ha : Args w A0 A1 m) => copied_c A0 A1 c0 c1 m w ha la9 lb9)
      have KV0 := Aside.mk (fun (w : World) (A0 A1 : Option Addr) (c0 c1 : Nat) (ha : Args w A0 A1 (addR m 0 st)) => Value_c A0 A1 c0 c1 (addR m 0 st) n l h w ha)
      have KV1 := Aside.mk (fun (w : World) (A0 A1 : Option Addr) (c0 c1 : Nat) (ha : Args w A0 A1 (addR m 1 st)) => Value_c A0 A1 c0 c1 (addR m 1 st) n l h w ha)
      have hst : stOk n l h = false ∨ stOk n l h = true := by cases stOk n l h <;> simp
      unfold rivV CopiedPost at *
      simp only [addR_d, (addR_ab m st).1, (addR_ab m st).2.1, (addR_ab m st).2.2.1, (addR_ab m st).2.2.2, List.length_append, List.length_cons, List.length_nil, Nat.zero_add] at KV0 KV1
      have HST := Aside.mk hs
      clear hc hg hgr hBl la9 lb9 hs hlong
      rcases hst with es | es
      · have CS := Aside.mk (lead_law m n l (wrap64 (l + x % 10)) h st (fun e => by rw [es] at e; cases e))
        have ES := Lib.hid es
        clear es
        go_enter Try.func5, Try.ntmps5
        go_wp2_with fail
        generalize (w.alloc (.cells #[.int .i64 m.d, .slice A0 m.a.length c0, .slice A1 m.b.length c1] 25)).alloc (.cells #[.int .i64 n, .int .i64 l, .int .i64 h] 27) = v at *
        refine (KA.out _).mono ?_
        rintro e v1 ⟨rfl, zb⟩
        have X0 := X0.be zb
        have X1 := X1.be zb
        have HC := Aside.mk (HC.out.be zb)
        have HB := Below.th HB0 zb
        obtain ⟨x0, x1, x2⟩ := X0.three
        obtain ⟨y0, y1, y2⟩ := X1.three
        clear zb HB0 KA
        go_wp2_with fail
        refine (KG.out _ HC.out).mono ?_
        rintro e v2 ⟨rfl, zb⟩
        have X0 := X0.be zb
        have X1 := X1.be zb
        have HR := HCA.out _ (HC.out.be zb)
        have HB := Below.th HB zb
        obtain ⟨x0, x1, x2⟩ := X0.three
        obtain ⟨y0, y1, y2⟩ := X1.three
        have HR0 := Aside.mk HR
        clear zb KG HC HCA
        have X2 := Blk.fresh v2 #[.int .i64 n, .int .i64 (wrap64 (l + x % 10)), .int .i64 h] 27
        have X0 := X0.al (.cells #[.int .i64 n, .int .i64 (wrap64 (l + x % 10)), .int .i64 h] 27)
        have X1 := X1.al (.cells #[.int .i64 n, .int .i64 (wrap64 (l + x % 10)), .int .i64 h] 27)
        have HR := HR.be (Below.al (Below.refl _ _) (.cells #[.int .i64 n, .int .i64 (wrap64 (l + x % 10)), .int .i64 h] 27))
        have HB := Below.al HB (.cells #[.int .i64 n, .int .i64 (wrap64 (l + x % 10)), .int .i64 h] 27)
        have KVL := Aside.mk (KVL.out (wrap64 (l + x % 10)))
        obtain ⟨x0', x1', x2'⟩ := X0.three
        obtain ⟨y0', y1', y2'⟩ := X1.three
        go_wp2_with fail
        refine (KV.out _ HR).mono ?_
        rintro e v3 ⟨rfl, zb⟩
        obtain ⟨a1, a2, ee, b1, b2, ff, ev, ev', hab, hee, hff, h3⟩ := CS.out
        rw [ev]
        have KVL := KVL.out
        rw [ev'] at KVL
        have KVL := Aside.mk KVL
        obtain ⟨p1, p2, pp, ev0, hpp, hap⟩ := h3 0 (.inl rfl)
        obtain ⟨q1, q2, qq, ev1, hqq, haq⟩ := h3 1 (.inr rfl)
        rw [ev0] at KV0
        rw [ev1] at KV1
        have HAB := Lib.hid hab
        have HAP := Lib.hid hap
        have HAQ := Lib.hid haq
        have A := (Blk.fresh v3 #[.int .i64 a1, .int .i64 a2] 43)
        have X0 := (X0.be zb).al (.cells #[.int .i64 a1, .int .i64 a2] 43)
        have X1 := (X1.be zb).al (.cells #[.int .i64 a1, .int .i64 a2] 43)
        have X2 := (X2.be zb).al (.cells #[.int .i64 a1, .int .i64 a2] 43)
        have HR := (HR.be zb).be (Below.al (Below.refl _ _) (.cells #[.int .i64 a1, .int .i64 a2] 43))
        have HB := Below.al (Below.th HB zb) (.cells #[.int .i64 a1, .int .i64 a2] 43)
        clear zb KV CS ev ev' ev0 ev1 hab hap haq h3 x0 x1 x2 y0 y1 y2 x0' x1' x2' y0' y1' y2'
        generalize v2.heap.size = tB at *
        obtain ⟨x0, x1, x2⟩ := X0.three
        obtain ⟨y0, y1, y2⟩ := X2.three
        go_wp2_with fail
        refine (KVL.out _ HR).mono ?_
        rintro e v4 ⟨rfl, zb⟩
        have A := (A.be zb).al (.cells #[.int .i64 b1, .int .i64 b2] 43)
        have B := (Blk.fresh v4 #[.int .i64 b1, .int .i64 b2] 43)
        have X0 := (X0.be zb).al (.cells #[.int .i64 b1, .int .i64 b2] 43)
        have X1 := (X1.be zb).al (.cells #[.int .i64 b1, .int .i64 b2] 43)
        have HR := (HR.be zb).be (Below.al (Below.refl _ _) (.cells #[.int .i64 b1, .int .i64 b2] 43))
        have HB := Below.al (Below.th HB zb) (.cells #[.int .i64 b1, .int .i64 b2] 43)
        clear zb KVL X2 x0 x1 x2 y0 y1 y2
        generalize v3.heap.size = aB at *
        obtain ⟨a0, a0'⟩ := A.two
        obtain ⟨b0, b0'⟩ := B.two
        rcases hee with rfl | rfl
        all_goals
          rcases hff with rfl | rfl
          all_goals
            (try obtain ⟨k1, k2⟩ := HAB.out rfl rfl)
            (try have k1' : ¬ b1 < a1 := by omega)
            (try have k2' : ¬ b2 < a2 := by omega)
            go_wp2_with fail
            (try clear k1 k2 k1' k2')
            have HH := Aside.mk (And.intro X0 (And.intro X1 (And.intro A HR)))
            clear a0 a0' b0 b0' X0 X1 A B HR
            generalize v4.alloc (.cells #[.int .i64 b1, .int .i64 b2] 43) = v5 at *
            go_loopw [73] (fun i wr => (i = .int .i64 0 ∨ i = .int .i64 1 ∨ i = .int .i64 2) ∧ Below v5.heap.size v5 wr) (fun i _ => 2 - (intOf i).toNat)
            case atStart => exact ⟨.inl rfl, Below.refl _ _⟩
            case round =>
              obtain ⟨hi, hB⟩ := hrel
              obtain ⟨X0, X1, A, HR⟩ := HH.out
              have X0 := X0.be hB
              have X1 := X1.be hB
              have A := A.be hB
              have HR := HR.be hB
              have HBr := Below.th HB hB
              obtain ⟨x0, x1, x2⟩ := X0.three
              rcases hi with rfl | rfl | rfl
              · go_wp2_with fail
                refine (KCP.out _ HR).mono ?_
                rintro e W ⟨s0, s1, t0, t1, rfl, hO, zb⟩
                obtain ⟨Ax, cx, rfl, _⟩ := own_slice hO.o0
                obtain ⟨Ay, cy, rfl, _⟩ := own_slice hO.o1
                have X := Blk.fresh W #[.int .i64 m.d, .slice Ax m.a.length cx, .slice Ay m.b.length cy] 25
                obtain ⟨n0, n1, n2⟩ := X.three
                have HO := Aside.mk hO
                have HZ := Aside.mk zb
                have hxl := X.lt
                have HX01 := Aside.mk (And.intro X0 (And.intro X1 (And.intro A HR)))
                obtain ⟨hl9, hl9'⟩ := HL9.out
                have hzb := zb.size
                have hw1 := X1.lt
                clear x0 x1 x2 X0 X1 A HR hO zb
                go_wp2_with (at_builtin; refine wpList_append_own_at _ rfl _ _ 22 rfl wr.heap.size 53 iR (.slice none 0 0) 1 24 Try.underlying22 hiR hzR0 hzR1 hzR2 rfl (by decide) _ _ _ rfl ((HO.out.o0.alloc _).alloc _) ⟨W.heap.size + 1, 0, none⟩ 1 1 [.slice As st.length cs] rfl rfl (World.news_of_block (B := W.heap.size + 1) (cs := #[.slice As st.length cs]) (fr := (0, 0)) (Blk.fresh' (by simp) : Blk ((W.alloc (.cells #[.int .i64 m.d, .slice Ax m.a.length cx, .slice Ay m.b.length cy] 25)).alloc (.cells #[.slice As st.length cs] 53)) (W.heap.size + 1) #[.slice As st.length cs] 53)) (by simp [Value.oneCell']) (by unfold maxLen; omega) (by omega) (by simp; omega) ?_; intro v' W3 hown' hgrow hnil hloc; obtain ⟨Az, cz, rfl, _⟩ := own_slice hown'; have X3 := (X.al (.cells #[.slice As st.length cs] 53)).grown hgrow (own_blk_ne (HO.out.o0.alloc _) X (by decide)); obtain ⟨z0, z1, z2⟩ := X3.three; have zf := X3.frozen 1; have zl := X3.lt; have hW3 : Below wr.heap.size wr W3 := Below.grown (Below.al (Below.al HZ.out _) _) hgrow (by simp; omega) (fun k hk => (HO.out.o0.lt k hk).1); have hW4 := Aside.mk hW3; have X1' := HX01.out.2.1.be hW3; obtain ⟨y0, y1, y2⟩ := X1'.three; have yne : ¬ w.heap.size + 1 = W.heap.size := (by omega); have HO' := Aside.mk hown'; have HG' := Aside.mk hgrow; clear hown' hgrow hnil hloc hW3)
                have hW4 := Aside.mk (show Below wr.heap.size wr (W3.setCell ⟨W.heap.size, 1, none⟩ (.slice Az (m.a.length + 1) cz)) from Below.sc hW4.out (by simpa using hzb) _)
                obtain ⟨B0, B1, d0, d1, e0, e1, ha⟩ := add_args0 (j := 1) (u := .slice Az (m.a.length + 1) cz) HO.out (Below.al (Below.al (Below.refl _ _) _) _) HG'.out HO'.out X3 (HST.out.below (Below.th HBr hW4.out)) HR0.out.sa HR0.out.sb hl9 hl9' h60
                simp only [Value.slice.injEq, true_and] at e0 e1
                obtain ⟨rfl, rfl⟩ := e0
                obtain ⟨rfl, rfl⟩ := e1
                refine (KV0.out _ _ _ _ _ ha).mono ?_
                rintro e W5 ⟨rfl, zb⟩
                have HB5 := Below.th HBr (Below.th hW4.out zb)
                have A := HX01.out.2.2.1.be (Below.th hW4.out zb)
                clear X3 z0 z1 z2 zf zl X1' y0 y1 y2 ha X n0 n1 n2 hxl yne
                have A := A.al (.cells #[.int .i64 p1, .int .i64 p2] 43)
                have C := Blk.fresh W5 #[.int .i64 p1, .int .i64 p2] 43
                have HB6 := Below.al HB5 (.cells #[.int .i64 p1, .int .i64 p2] 43)
                have hB6 : Below v5.heap.size v5 (W5.alloc (.cells #[.int .i64 p1, .int .i64 p2] 43)) := Below.al (Below.th hB (Below.th hW4.out zb)) _
                have hB6 := Aside.mk hB6
                clear zb hW4 HB5 HB6
                obtain ⟨a0, a0'⟩ := A.two
                obtain ⟨c0', c0''⟩ := C.two
                rcases hpp with rfl | rfl
                all_goals
                  (try have k5 : a1 ≤ p1 ∧ a2 ≤ p2 := (by have := HAP.out; simpa using this))
                  (try obtain ⟨k6, k7⟩ := k5)
                  (try have k6' : ¬ p1 < a1 := by omega)
                  (try have k7' : ¬ p2 < a2 := by omega)
                  go_wp2
                  go_roundw
                  case rel => exact ⟨.inr (.inl rfl), hB6.out⟩
                  case measure => simp [intOf]
              · go_wp2_with fail
                refine (KCP.out _ HR).mono ?_
                rintro e W ⟨s0, s1, t0, t1, rfl, hO, zb⟩
                obtain ⟨Ax, cx, rfl, _⟩ := own_slice hO.o0
                obtain ⟨Ay, cy, rfl, _⟩ := own_slice hO.o1
                have X := Blk.fresh W #[.int .i64 m.d, .slice Ax m.a.length cx, .slice Ay m.b.length cy] 25
                obtain ⟨n0, n1, n2⟩ := X.three
                have HO := Aside.mk hO
                have HZ := Aside.mk zb
                have hxl := X.lt
                have HX01 := Aside.mk (And.intro X0 (And.intro X1 (And.intro A HR)))
                obtain ⟨hl9, hl9'⟩ := HL9.out
                have hzb := zb.size
                have hw1 := X1.lt
                clear x0 x1 x2 X0 X1 A HR hO zb
                go_wp2_with (at_builtin; refine wpList_append_own_at _ rfl _ _ 22 rfl wr.heap.size 53 iR (.slice none 0 0) 1 24 Try.underlying22 hiR hzR0 hzR1 hzR2 rfl (by decide) _ _ _ rfl ((HO.out.o1.alloc _).alloc _) ⟨W.heap.size + 1, 0, none⟩ 1 1 [.slice As st.length cs] rfl rfl (World.news_of_block (B := W.heap.size + 1) (cs := #[.slice As st.length cs]) (fr := (0, 0)) (Blk.fresh' (by simp) : Blk ((W.alloc (.cells #[.int .i64 m.d, .slice Ax m.a.length cx, .slice Ay m.b.length cy] 25)).alloc (.cells #[.slice As st.length cs] 53)) (W.heap.size + 1) #[.slice As st.length cs] 53)) (by simp [Value.oneCell']) (by unfold maxLen; omega) (by omega) (by simp; omega) ?_; intro v' W3 hown' hgrow hnil hloc; obtain ⟨Az, cz, rfl, _⟩ := own_slice hown'; have X3 := (X.al (.cells #[.slice As st.length cs] 53)).grown hgrow (own_blk_ne (HO.out.o1.alloc _) X (by decide)); obtain ⟨z0, z1, z2⟩ := X3.three; have zf := X3.frozen 2; have zl := X3.lt; have hW3 : Below wr.heap.size wr W3 := Below.grown (Below.al (Below.al HZ.out _) _) hgrow (by simp; omega) (fun k hk => (HO.out.o1.lt k hk).1); have hW4 := Aside.mk hW3; have X1' := HX01.out.2.1.be hW3; obtain ⟨y0, y1, y2⟩ := X1'.three; have yne : ¬ w.heap.size + 1 = W.heap.size := (by omega); have HO' := Aside.mk hown'; have HG' := Aside.mk hgrow; clear hown' hgrow hnil hloc hW3)
                have hW4 := Aside.mk (show Below wr.heap.size wr (W3.setCell ⟨W.heap.size, 2, none⟩ (.slice Az (m.b.length + 1) cz)) from Below.sc hW4.out (by simpa using hzb) _)
                obtain ⟨B0, B1, d0, d1, e0, e1, ha⟩ := add_args1 (j := 2) (u := .slice Az (m.b.length + 1) cz) HO.out (Below.al (Below.al (Below.refl _ _) _) _) HG'.out HO'.out X3 (HST.out.below (Below.th HBr hW4.out)) HR0.out.sa HR0.out.sb hl9 hl9' h60
                simp only [Value.slice.injEq, true_and] at e0 e1
                obtain ⟨rfl, rfl⟩ := e0
                obtain ⟨rfl, rfl⟩ := e1
                refine (KV1.out _ _ _ _ _ ha).mono ?_
                rintro e W5 ⟨rfl, zb⟩
                have HB5 := Below.th HBr (Below.th hW4.out zb)
                have A := HX01.out.2.2.1.be (Below.th hW4.out zb)
                clear X3 z0 z1 z2 zf zl X1' y0 y1 y2 ha X n0 n1 n2 hxl yne
                have A := A.al (.cells #[.int .i64 q1, .int .i64 q2] 43)
                have C := Blk.fresh W5 #[.int .i64 q1, .int .i64 q2] 43
                have HB6 := Below.al HB5 (.cells #[.int .i64 q1, .int .i64 q2] 43)
                have hB6 : Below v5.heap.size v5 (W5.alloc (.cells #[.int .i64 q1, .int .i64 q2] 43)) := Below.al (Below.th hB (Below.th hW4.out zb)) _
                have hB6 := Aside.mk hB6
                clear zb hW4 HB5 HB6
                obtain ⟨a0, a0'⟩ := A.two
                obtain ⟨c0', c0''⟩ := C.two
                rcases hqq with rfl | rfl
                all_goals
                  (try have k5 : q1 ≤ a1 ∧ q2 ≤ a2 := (by have := HAQ.out; simpa using this))
                  (try obtain ⟨k6, k7⟩ := k5)
                  (try have k6' : ¬ a1 < q1 := by omega)
                  (try have k7' : ¬ a2 < q2 := by omega)
                  go_wp2
                  go_roundw
                  case rel => exact ⟨.inr (.inr rfl), hB6.out⟩
                  case measure => simp [intOf]
              · go_wp2
                go_ret
                exact ⟨rfl, HBr⟩
      · obtain ⟨_, ⟨l0, l1⟩, _⟩ := stOk_iff es
        have CS := Aside.mk (lead_law m n l (l + x % 10) h st (fun _ => by omega))
        have ES := Lib.hid es
        clear es
        go_enter Try.func5, Try.ntmps5
        go_wp2_with fail
        generalize (w.alloc (.cells #[.int .i64 m.d, .slice A0 m.a.length c0, .slice A1 m.b.length c1] 25)).alloc (.cells #[.int .i64 n, .int .i64 l, .int .i64 h] 27) = v at *
        refine (KA.out _).mono ?_
        rintro e v1 ⟨rfl, zb⟩
        have X0 := X0.be zb
        have X1 := X1.be zb
        have HC := Aside.mk (HC.out.be zb)
        have HB := Below.th HB0 zb
        obtain ⟨x0, x1, x2⟩ := X0.three
        obtain ⟨y0, y1, y2⟩ := X1.three
        clear zb HB0 KA
        go_wp2_with fail
        refine (KG.out _ HC.out).mono ?_
        rintro e v2 ⟨rfl, zb⟩
        have X0 := X0.be zb
        have X1 := X1.be zb
        have HR := HCA.out _ (HC.out.be zb)
        have HB := Below.th HB zb
        obtain ⟨x0, x1, x2⟩ := X0.three
        obtain ⟨y0, y1, y2⟩ := X1.three
        have HR0 := Aside.mk HR
        clear zb KG HC HCA
        have X2 := Blk.fresh v2 #[.int .i64 n, .int .i64 (l + x % 10), .int .i64 h] 27
        have X0 := X0.al (.cells #[.int .i64 n, .int .i64 (l + x % 10), .int .i64 h] 27)
        have X1 := X1.al (.cells #[.int .i64 n, .int .i64 (l + x % 10), .int .i64 h] 27)
        have HR := HR.be (Below.al (Below.refl _ _) (.cells #[.int .i64 n, .int .i64 (l + x % 10), .int .i64 h] 27))
        have HB := Below.al HB (.cells #[.int .i64 n, .int .i64 (l + x % 10), .int .i64 h] 27)
        have KVL := Aside.mk (KVL.out (l + x % 10))
        obtain ⟨x0', x1', x2'⟩ := X0.three
        obtain ⟨y0', y1', y2'⟩ := X1.three
        go_wp2_with fail
        refine (KV.out _ HR).mono ?_
        rintro e v3 ⟨rfl, zb⟩
        obtain ⟨a1, a2, ee, b1, b2, ff, ev, ev', hab, hee, hff, h3⟩ := CS.out
        rw [ev]
        have KVL := KVL.out
        rw [ev'] at KVL
        have KVL := Aside.mk KVL
        obtain ⟨p1, p2, pp, ev0, hpp, hap⟩ := h3 0 (.inl rfl)
        obtain ⟨q1, q2, qq, ev1, hqq, haq⟩ := h3 1 (.inr rfl)
        rw [ev0] at KV0
        rw [ev1] at KV1
        have HAB := Lib.hid hab
        have HAP := Lib.hid hap
        have HAQ := Lib.hid haq
        have A := (Blk.fresh v3 #[.int .i64 a1, .int .i64 a2] 43)
        have X0 := (X0.be zb).al (.cells #[.int .i64 a1, .int .i64 a2] 43)
        have X1 := (X1.be zb).al (.cells #[.int .i64 a1, .int .i64 a2] 43)
        have X2 := (X2.be zb).al (.cells #[.int .i64 a1, .int .i64 a2] 43)
        have HR := (HR.be zb).be (Below.al (Below.refl _ _) (.cells #[.int .i64 a1, .int .i64 a2] 43))
        have HB := Below.al (Below.th HB zb) (.cells #[.int .i64 a1, .int .i64 a2] 43)
        clear zb KV CS ev ev' ev0 ev1 hab hap haq h3 x0 x1 x2 y0 y1 y2 x0' x1' x2' y0' y1' y2'
        generalize v2.heap.size = tB at *
        obtain ⟨x0, x1, x2⟩ := X0.three
        obtain ⟨y0, y1, y2⟩ := X2.three
        go_wp2_with fail
        refine (KVL.out _ HR).mono ?_
        rintro e v4 ⟨rfl, zb⟩
        have A := (A.be zb).al (.cells #[.int .i64 b1, .int .i64 b2] 43)
        have B := (Blk.fresh v4 #[.int .i64 b1, .int .i64 b2] 43)
        have X0 := (X0.be zb).al (.cells #[.int .i64 b1, .int .i64 b2] 43)
        have X1 := (X1.be zb).al (.cells #[.int .i64 b1, .int .i64 b2] 43)
        have HR := (HR.be zb).be (Below.al (Below.refl _ _) (.cells #[.int .i64 b1, .int .i64 b2] 43))
        have HB := Below.al (Below.th HB zb) (.cells #[.int .i64 b1, .int .i64 b2] 43)
        clear zb KVL X2 x0 x1 x2 y0 y1 y2
        generalize v3.heap.size = aB at *
        obtain ⟨a0, a0'⟩ := A.two
        obtain ⟨b0, b0'⟩ := B.two
        rcases hee with rfl | rfl
        all_goals
          rcases hff with rfl | rfl
          all_goals
            (try obtain ⟨k1, k2⟩ := HAB.out rfl rfl)
            (try have k1' : ¬ b1 < a1 := by omega)
            (try have k2' : ¬ b2 < a2 := by omega)
            go_wp2_with fail
            (try clear k1 k2 k1' k2')
            have HH := Aside.mk (And.intro X0 (And.intro X1 (And.intro A HR)))
            clear a0 a0' b0 b0' X0 X1 A B HR
            generalize v4.alloc (.cells #[.int .i64 b1, .int .i64 b2] 43) = v5 at *
            go_loopw [73] (fun i wr => (i = .int .i64 0 ∨ i = .int .i64 1 ∨ i = .int .i64 2) ∧ Below v5.heap.size v5 wr) (fun i _ => 2 - (intOf i).toNat)
            case atStart => exact ⟨.inl rfl, Below.refl _ _⟩
            case round =>
              obtain ⟨hi, hB⟩ := hrel
              obtain ⟨X0, X1, A, HR⟩ := HH.out
              have X0 := X0.be hB
              have X1 := X1.be hB
              have A := A.be hB
              have HR := HR.be hB
              have HBr := Below.th HB hB
              obtain ⟨x0, x1, x2⟩ := X0.three
              rcases hi with rfl | rfl | rfl
              · go_wp2_with fail
                refine (KCP.out _ HR).mono ?_
                rintro e W ⟨s0, s1, t0, t1, rfl, hO, zb⟩
                obtain ⟨Ax, cx, rfl, _⟩ := own_slice hO.o0
                obtain ⟨Ay, cy, rfl, _⟩ := own_slice hO.o1
                have X := Blk.fresh W #[.int .i64 m.d, .slice Ax m.a.length cx, .slice Ay m.b.length cy] 25
                obtain ⟨n0, n1, n2⟩ := X.three
                have HO := Aside.mk hO
                have HZ := Aside.mk zb
                have hxl := X.lt
                have HX01 := Aside.mk (And.intro X0 (And.intro X1 (And.intro A HR)))
                obtain ⟨hl9, hl9'⟩ := HL9.out
                have hzb := zb.size
                have hw1 := X1.lt
                clear x0 x1 x2 X0 X1 A HR hO zb
                go_wp2_with (at_builtin; refine wpList_append_own_at _ rfl _ _ 22 rfl wr.heap.size 53 iR (.slice none 0 0) 1 24 Try.underlying22 hiR hzR0 hzR1 hzR2 rfl (by decide) _ _ _ rfl ((HO.out.o0.alloc _).alloc _) ⟨W.heap.size + 1, 0, none⟩ 1 1 [.slice As st.length cs] rfl rfl (World.news_of_block (B := W.heap.size + 1) (cs := #[.slice As st.length cs]) (fr := (0, 0)) (Blk.fresh' (by simp) : Blk ((W.alloc (.cells #[.int .i64 m.d, .slice Ax m.a.length cx, .slice Ay m.b.length cy] 25)).alloc (.cells #[.slice As st.length cs] 53)) (W.heap.size + 1) #[.slice As st.length cs] 53)) (by simp [Value.oneCell']) (by unfold maxLen; omega) (by omega) (by simp; omega) ?_; intro v' W3 hown' hgrow hnil hloc; obtain ⟨Az, cz, rfl, _⟩ := own_slice hown'; have X3 := (X.al (.cells #[.slice As st.length cs] 53)).grown hgrow (own_blk_ne (HO.out.o0.alloc _) X (by decide)); obtain ⟨z0, z1, z2⟩ := X3.three; have zf := X3.frozen 1; have zl := X3.lt; have hW3 : Below wr.heap.size wr W3 := Below.grown (Below.al (Below.al HZ.out _) _) hgrow (by simp; omega) (fun k hk => (HO.out.o0.lt k hk).1); have hW4 := Aside.mk hW3; have X1' := HX01.out.2.1.be hW3; obtain ⟨y0, y1, y2⟩ := X1'.three; have yne : ¬ w.heap.size + 1 = W.heap.size := (by omega); have HO' := Aside.mk hown'; have HG' := Aside.mk hgrow; clear hown' hgrow hnil hloc hW3)
                have hW4 := Aside.mk (show Below wr.heap.size wr (W3.setCell ⟨W.heap.size, 1, none⟩ (.slice Az (m.a.length + 1) cz)) from Below.sc hW4.out (by simpa using hzb) _)
                obtain ⟨B0, B1, d0, d1, e0, e1, ha⟩ := add_args0 (j := 1) (u := .slice Az (m.a.length + 1) cz) HO.out (Below.al (Below.al (Below.refl _ _) _) _) HG'.out HO'.out X3 (HST.out.below (Below.th HBr hW4.out)) HR0.out.sa HR0.out.sb hl9 hl9' h60
                simp only [Value.slice.injEq, true_and] at e0 e1
                obtain ⟨rfl, rfl⟩ := e0
                obtain ⟨rfl, rfl⟩ := e1
                refine (KV0.out _ _ _ _ _ ha).mono ?_
                rintro e W5 ⟨rfl, zb⟩
                have HB5 := Below.th HBr (Below.th hW4.out zb)
                have A := HX01.out.2.2.1.be (Below.th hW4.out zb)
                clear X3 z0 z1 z2 zf zl X1' y0 y1 y2 ha X n0 n1 n2 hxl yne
                have A := A.al (.cells #[.int .i64 p1, .int .i64 p2] 43)
                have C := Blk.fresh W5 #[.int .i64 p1, .int .i64 p2] 43
                have HB6 := Below.al HB5 (.cells #[.int .i64 p1, .int .i64 p2] 43)
                have hB6 : Below v5.heap.size v5 (W5.alloc (.cells #[.int .i64 p1, .int .i64 p2] 43)) := Below.al (Below.th hB (Below.th hW4.out zb)) _
                have hB6 := Aside.mk hB6
                clear zb hW4 HB5 HB6
                obtain ⟨a0, a0'⟩ := A.two
                obtain ⟨c0', c0''⟩ := C.two
                rcases hpp with rfl | rfl
                all_goals
                  (try have k5 : a1 ≤ p1 ∧ a2 ≤ p2 := (by have := HAP.out; simpa using this))
                  (try obtain ⟨k6, k7⟩ := k5)
                  (try have k6' : ¬ p1 < a1 := by omega)
                  (try have k7' : ¬ p2 < a2 := by omega)
                  go_wp2
                  go_roundw
                  case rel => exact ⟨.inr (.inl rfl), hB6.out⟩
                  case measure => simp [intOf]
              · go_wp2_with fail
                refine (KCP.out _ HR).mono ?_
                rintro e W ⟨s0, s1, t0, t1, rfl, hO, zb⟩
                obtain ⟨Ax, cx, rfl, _⟩ := own_slice hO.o0
                obtain ⟨Ay, cy, rfl, _⟩ := own_slice hO.o1
                have X := Blk.fresh W #[.int .i64 m.d, .slice Ax m.a.length cx, .slice Ay m.b.length cy] 25
                obtain ⟨n0, n1, n2⟩ := X.three
                have HO := Aside.mk hO
                have HZ := Aside.mk zb
                have hxl := X.lt
                have HX01 := Aside.mk (And.intro X0 (And.intro X1 (And.intro A HR)))
                obtain ⟨hl9, hl9'⟩ := HL9.out
                have hzb := zb.size
                have hw1 := X1.lt
                clear x0 x1 x2 X0 X1 A HR hO zb
                go_wp2_with (at_builtin; refine wpList_append_own_at _ rfl _ _ 22 rfl wr.heap.size 53 iR (.slice none 0 0) 1 24 Try.underlying22 hiR hzR0 hzR1 hzR2 rfl (by decide) _ _ _ rfl ((HO.out.o1.alloc _).alloc _) ⟨W.heap.size + 1, 0, none⟩ 1 1 [.slice As st.length cs] rfl rfl (World.news_of_block (B := W.heap.size + 1) (cs := #[.slice As st.length cs]) (fr := (0, 0)) (Blk.fresh' (by simp) : Blk ((W.alloc (.cells #[.int .i64 m.d, .slice Ax m.a.length cx, .slice Ay m.b.length cy] 25)).alloc (.cells #[.slice As st.length cs] 53)) (W.heap.size + 1) #[.slice As st.length cs] 53)) (by simp [Value.oneCell']) (by unfold maxLen; omega) (by omega) (by simp; omega) ?_; intro v' W3 hown' hgrow hnil hloc; obtain ⟨Az, cz, rfl, _⟩ := own_slice hown'; have X3 := (X.al (.cells #[.slice As st.length cs] 53)).grown hgrow (own_blk_ne (HO.out.o1.alloc _) X (by decide)); obtain ⟨z0, z1, z2⟩ := X3.three; have zf := X3.frozen 2; have zl := X3.lt; have hW3 : Below wr.heap.size wr W3 := Below.grown (Below.al (Below.al HZ.out _) _) hgrow (by simp; omega) (fun k hk => (HO.out.o1.lt k hk).1); have hW4 := Aside.mk hW3; have X1' := HX01.out.2.1.be hW3; obtain ⟨y0, y1, y2⟩ := X1'.three; have yne : ¬ w.heap.size + 1 = W.heap.size := (by omega); have HO' := Aside.mk hown'; have HG' := Aside.mk hgrow; clear hown' hgrow hnil hloc hW3)
                have hW4 := Aside.mk (show Below wr.heap.size wr (W3.setCell ⟨W.heap.size, 2, none⟩ (.slice Az (m.b.length + 1) cz)) from Below.sc hW4.out (by simpa using hzb) _)
                obtain ⟨B0, B1, d0, d1, e0, e1, ha⟩ := add_args1 (j := 2) (u := .slice Az (m.b.length + 1) cz) HO.out (Below.al (Below.al (Below.refl _ _) _) _) HG'.out HO'.out X3 (HST.out.below (Below.th HBr hW4.out)) HR0.out.sa HR0.out.sb hl9 hl9' h60
                simp only [Value.slice.injEq, true_and] at e0 e1
                obtain ⟨rfl, rfl⟩ := e0
                obtain ⟨rfl, rfl⟩ := e1
                refine (KV1.out _ _ _ _ _ ha).mono ?_
                rintro e W5 ⟨rfl, zb⟩
                have HB5 := Below.th HBr (Below.th hW4.out zb)
                have A := HX01.out.2.2.1.be (Below.th hW4.out zb)
                clear X3 z0 z1 z2 zf zl X1' y0 y1 y2 ha X n0 n1 n2 hxl yne
                have A := A.al (.cells #[.int .i64 q1, .int .i64 q2] 43)
                have C := Blk.fresh W5 #[.int .i64 q1, .int .i64 q2] 43
                have HB6 := Below.al HB5 (.cells #[.int .i64 q1, .int .i64 q2] 43)
                have hB6 : Below v5.heap.size v5 (W5.alloc (.cells #[.int .i64 q1, .int .i64 q2] 43)) := Below.al (Below.th hB (Below.th hW4.out zb)) _
                have hB6 := Aside.mk hB6
                clear zb hW4 HB5 HB6
                obtain ⟨a0, a0'⟩ := A.two
                obtain ⟨c0', c0''⟩ := C.two
                rcases hqq with rfl | rfl
                all_goals
                  (try have k5 : q1 ≤ a1 ∧ q2 ≤ a2 := (by have := HAQ.out; simpa using this))
                  (try obtain ⟨k6, k7⟩ := k5)
                  (try have k6' : ¬ a1 < q1 := by omega)
                  (try have k7' : ¬ a2 < q2 := by omega)
                  go_wp2
                  go_roundw
                  case rel => exact ⟨.inr (.inr rfl), hB6.out⟩
                  case measure => simp [intOf]
              · go_wp2
                go_ret
                exact ⟨rfl, HBr⟩
  · rw [hg] at KG
    unfold rivV at *
    clear hc hg hBl hs
    go_enter Try.func5, Try.ntmps5
    go_wp2_with fail
    generalize (w.alloc (.cells #[.int .i64 m.d, .slice A0 m.a.length c0, .slice A1 m.b.length c1] 25)).alloc (.cells #[.int .i64 n, .int .i64 l, .int .i64 h] 27) = v at *
    refine (KA.out _).mono ?_
    rintro e v1 ⟨rfl, zb⟩
    have X0 := X0.be zb
    have X1 := X1.be zb
    have HC := Aside.mk (HC.out.be zb)
    have HB := Below.th HB0 zb
    obtain ⟨x0, x1, x2⟩ := X0.three
    obtain ⟨y0, y1, y2⟩ := X1.three
    clear zb HB0 KA
    go_wp2_with fail
    refine (KG.out _ HC.out).mono ?_
    rintro e v2 ⟨rfl, zb⟩
    have HB := Below.th HB zb
    go_wp2
    go_ret
    exact ⟨rfl, HB⟩
end Go.Proofs.Ytjbgdpbeabakiaa
