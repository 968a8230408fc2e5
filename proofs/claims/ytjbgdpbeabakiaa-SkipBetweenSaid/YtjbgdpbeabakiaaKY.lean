/- The law SkipBetween: its function answers true (Blank's contract handed in). -/
import Derived.Test.YtjbgdpbeabakiaaKX
import Derived.Test.YtjbgdpbeabakiaaKU
import Derived.Deep.RegionHeld3
namespace Go.Proofs.Ytjbgdpbeabakiaa
open Go.RowKit Go.Shelf
set_option linter.unusedVariables false
set_option linter.unusedSimpArgs false
theorem chance_ok (m : Riv) (hm : Cnt m) (down : Bool) (A0 A1 : Option Addr) (c0 c1 p mb B : Nat) : ∀ n : Nat, n ≤ 12 → PlayOk m down A0 A1 c0 c1 p mb B n := by
  intro n
  induction n with
  | zero =>
    intro _ l h w l0 l1 hh hk
    by_cases hl : l = 0
    · subst hl
      rcases hh with rfl | rfl
      · exact chance_z0 m hm down A0 A1 c0 c1 p mb B w hk
      · exact chance_z1 m hm down A0 A1 c0 c1 p mb B w hk
    · exact chance_end m down A0 A1 c0 c1 p mb B l h w hl hk
  | succ n ih =>
    intro hn l h w l0 l1 hh hk
    rw [show ((n + 1 : Nat) : Int) = (n : Int) + 1 by omega]
    rcases hh with rfl | rfl
    · exact chance_s0 m hm down A0 A1 c0 c1 p mb B n l w hn l0 l1 (ih (by omega)) hk
    · exact chance_s1 m hm down A0 A1 c0 c1 p mb B n l w hn l0 l1 (ih (by omega)) hk
theorem Below.th' {w v x : World} (h : Below w.heap.size w v) (k : Below w.heap.size v.drew x) : Below w.heap.size w x := (Below.dr h).trans k
theorem Kept2.th_below {p mb : Nat} {w w' : World} (h : Kept2 p mb w w') {B : Nat} (h3 : B ≤ w.heap.size) (h1 : B ≤ p) (h2 : B ≤ mb) : Below B w w' := h.below h1 h2 h3
theorem Fills.cnt {m m' : Riv} (h : Fills m m') (hm : rivOk m = true) (d40 : m.d ≤ 40) : Cnt m' := fun t => by
  obtain ⟨hl, hst, d1, _⟩ := rivOk_st hm t
  refine ⟨by rw [h.len]; exact hl, fun c hc => ?_⟩
  obtain ⟨i, hi, rfl⟩ := List.mem_iff_getElem.1 hc
  have hi' : i < (m.st t).length := by rw [← h.len]; exact hi
  obtain ⟨k1, k2⟩ := hst _ (List.getElem_mem hi')
  have b := (h.st t i hi' hi).bd (Counts.of k1).1
  exact ⟨by omega, fun n hn => by have := b.2 n hn; omega⟩
/-- how Value answers, for SkipBetween -/
theorem value_two (m : Riv) (n l h : Int) : valueV m n l h = .tuple #[.agg #[.int .i64 0, .int .i64 0], .int .i64 2] ∨ (rivOk m = true ∧ ((0 ≤ n ∧ n ≤ 12) ∧ (-96 ≤ l ∧ l ≤ 96) ∧ (h = 0 ∨ h = 1)) ∧ valueV m n l h = .tuple #[.agg #[.int .i64 (hopeH m n.toNat l h).1, .int .i64 (hopeH m n.toNat l h).2], .int .i64 0]) := by
  cases e : rivOk m && stOk n l h
  · exact .inl (by simp only [valueV]; rw [e]; rfl)
  · have e2 := e
    rw [Bool.and_eq_true] at e2
    exact .inr ⟨e2.1, stOk_iff e2.2, by simp only [valueV]; rw [e]; rfl⟩
set_option maxHeartbeats 8000000 in
set_option maxRecDepth 100000 in
theorem SkipBetween_c (hBl : BlankOk) (A0 A1 Ao : Option Addr) (c0 c1 co N : Nat) (m : Riv) (n l h : Int) (os : List Nat) (hN : os.length = N) (w : World) (hc : Came w A0 A1 m) (ho : Arr w Ao (os.map fun x : Nat => Value.int .u8 x)) (hob : ∀ x ∈ os, x ≤ 255) :
    Calls Try.prog 4 #[rivV m A0 A1 c0 c1, .agg #[.int .i64 n, .int .i64 l, .int .i64 h], .slice Ao N co] w fun e w' => e = .returned (.bool true) ∧ Below w.heap.size w w' := by
  have hmk : ∀ w : World, (Instr.makeMap 48 none).run Try.prog w = .ok (.map (some w.heap.size)) (w.alloc (.map #[] 0)) := fun w => by kernel_rfl
  have KA := Aside.mk (alive_c hBl)
  have KG := Aside.mk (fun w (h' : Came w A0 A1 m) => long_c A0 A1 c0 c1 m n l h 4 w h'.ra h'.rb h'.la h'.lb h'.ca h'.cb)
  have HB0 : Below w.heap.size w ((w.alloc (.cells #[.int .i64 m.d, .slice A0 m.a.length c0, .slice A1 m.b.length c1] 25)).alloc (.cells #[.int .i64 n, .int .i64 l, .int .i64 h] 27)) := (by repeat (with_reducible first | exact Below.refl _ _ | assumption | refine Below.al ?_ _ | refine Below.dr ?_ | refine Below.drn ?_ _ | refine Below.sc ?_ (by simp <;> omega) _ | refine Below.th ?_ (by assumption)))
  have X0 : Blk ((w.alloc (.cells #[.int .i64 m.d, .slice A0 m.a.length c0, .slice A1 m.b.length c1] 25)).alloc (.cells #[.int .i64 n, .int .i64 l, .int .i64 h] 27)) w.heap.size #[.int .i64 m.d, .slice A0 m.a.length c0, .slice A1 m.b.length c1] 25 := (Blk.fresh _ _ _).al _
  have X1 : Blk ((w.alloc (.cells #[.int .i64 m.d, .slice A0 m.a.length c0, .slice A1 m.b.length c1] 25)).alloc (.cells #[.int .i64 n, .int .i64 l, .int .i64 h] 27)) (w.heap.size + 1) #[.int .i64 n, .int .i64 l, .int .i64 h] 27 := Blk.fresh' (by simp)
  have HC := Aside.mk (hc.be HB0)
  have hcase : (greatB m || (decide (4 < n) && decide (n ≤ 12))) = true ∨ ((greatB m || (decide (4 < n) && decide (n ≤ 12))) = false ∧ (200 < N ∨ (¬ 200 < N ∧ 40 < m.d) ∨ (¬ 200 < N ∧ ¬ 40 < m.d))) := by
    cases (greatB m || (decide (4 < n) && decide (n ≤ 12))) <;> simp <;> omega
  rcases hcase with hg | ⟨hg, hcase⟩
  · rw [hg] at KG
    unfold rivV at *
    clear hc hg hBl
    go_enter Try.func4, Try.ntmps4
    go_wp2_with fail
    generalize (w.alloc (.cells #[.int .i64 m.d, .slice A0 m.a.length c0, .slice A1 m.b.length c1] 25)).alloc (.cells #[.int .i64 n, .int .i64 l, .int .i64 h] 27) = v at *
    refine (KA.out _).mono ?_
    rintro e v1 ⟨rfl, zb⟩
    have X0 := X0.be zb
    have X1 := X1.be zb
    have HC := Aside.mk (HC.out.be zb)
    have HB := Below.th HB0 zb
    obtain ⟨x0, x1, x2⟩ := X0.three
    obtain ⟨y0, y1, y2⟩ := X1.three
    clear zb HB0 KA
    go_wp2_with fail
    refine (KG.out _ HC.out).mono ?_
    rintro e v2 ⟨rfl, zb⟩
    have HB := Below.th HB zb
    go_wp2
    go_ret
    exact ⟨rfl, HB⟩
  · have hgr : greatB m = false := by
      cases e : greatB m
      · rfl
      · rw [e] at hg; simp at hg
    rw [hg] at KG
    have HCA : Aside (∀ w, Came w A0 A1 m → Args w A0 A1 m) := ⟨fun w hc => hc.args hgr⟩
    rcases hcase with hlong | ⟨hlong, hd40⟩ | ⟨hlong, hd40⟩
    · have hlong' : (200 : Int) < N := by omega
      unfold rivV at *
      clear hc hg hBl HCA hgr hN
      go_enter Try.func4, Try.ntmps4
      go_wp2_with fail
      generalize (w.alloc (.cells #[.int .i64 m.d, .slice A0 m.a.length c0, .slice A1 m.b.length c1] 25)).alloc (.cells #[.int .i64 n, .int .i64 l, .int .i64 h] 27) = v at *
      refine (KA.out _).mono ?_
      rintro e v1 ⟨rfl, zb⟩
      have X0 := X0.be zb
      have X1 := X1.be zb
      have HC := Aside.mk (HC.out.be zb)
      have HB := Below.th HB0 zb
      obtain ⟨x0, x1, x2⟩ := X0.three
      obtain ⟨y0, y1, y2⟩ := X1.three
      clear zb HB0 KA
      go_wp2_with fail
      refine (KG.out _ HC.out).mono ?_
      rintro e v2 ⟨rfl, zb⟩
      have HB := Below.th HB zb
      have X0 := X0.be zb
      obtain ⟨x0', x1', x2'⟩ := X0.three
      go_wp2
      go_ret
      exact ⟨rfl, HB⟩
    · have hlong' : ¬ (200 : Int) < N := by omega
      unfold rivV at *
      clear hc hg hBl HCA hgr hN
      go_enter Try.func4, Try.ntmps4
      go_wp2_with fail
      generalize (w.alloc (.cells #[.int .i64 m.d, .slice A0 m.a.length c0, .slice A1 m.b.length c1] 25)).alloc (.cells #[.int .i64 n, .int .i64 l, .int .i64 h] 27) = v at *
      refine (KA.out _).mono ?_
      rintro e v1 ⟨rfl, zb⟩
      have X0 := X0.be zb
      have X1 := X1.be zb
      have HC := Aside.mk (HC.out.be zb)
      have HB := Below.th HB0 zb
      obtain ⟨x0, x1, x2⟩ := X0.three
      obtain ⟨y0, y1, y2⟩ := X1.three
      clear zb HB0 KA
      go_wp2_with fail
      refine (KG.out _ HC.out).mono ?_
      rintro e v2 ⟨rfl, zb⟩
      have HB := Below.th HB zb
      have X0 := X0.be zb
      obtain ⟨x0', x1', x2'⟩ := X0.three
      go_wp2
      go_ret
      exact ⟨rfl, HB⟩
    · subst hN
      have hlong' : ¬ (200 : Int) < os.length := by omega
      have KV := Aside.mk (fun w (ha : Args w A0 A1 m) => Value_c A0 A1 c0 c1 m n l h w ha)
      have V2 := value_two m n l h
      have HOS := Aside.mk (And.intro ho hob)
      clear hc hg hBl hgr ho hob
      rcases V2 with ev | ⟨em, ⟨⟨n0, n1⟩, ⟨l0, l1⟩, hh⟩, ev⟩
      · rw [ev] at KV
        have EV := Lib.hid ev
        unfold rivV at *
        clear ev
        go_enter Try.func4, Try.ntmps4
        go_wp2_with fail
        generalize (w.alloc (.cells #[.int .i64 m.d, .slice A0 m.a.length c0, .slice A1 m.b.length c1] 25)).alloc (.cells #[.int .i64 n, .int .i64 l, .int .i64 h] 27) = v at *
        refine (KA.out _).mono ?_
        rintro e v1 ⟨rfl, zb⟩
        have X0 := X0.be zb
        have X1 := X1.be zb
        have HC := Aside.mk (HC.out.be zb)
        have HB := Below.th HB0 zb
        obtain ⟨x0, x1, x2⟩ := X0.three
        obtain ⟨y0, y1, y2⟩ := X1.three
        clear zb HB0 KA
        go_wp2_with fail
        refine (KG.out _ HC.out).mono ?_
        rintro e v2 ⟨rfl, zb⟩
        have HB := Below.th HB zb
        have X0 := X0.be zb
        have X1 := X1.be zb
        have HR := HCA.out _ (HC.out.be zb)
        clear x0 x1 x2 y0 y1 y2
        obtain ⟨x0, x1, x2⟩ := X0.three
        obtain ⟨y0, y1, y2⟩ := X1.three
        go_wp2_with fail
        refine (KV.out _ HR).mono ?_
        rintro e v3 ⟨rfl, zb⟩
        have HB := Below.th HB zb
        go_wp2
        go_ret
        exact ⟨rfl, (by repeat (with_reducible first | exact Below.refl _ _ | assumption | refine Below.al ?_ _ | refine Below.dr ?_ | refine Below.drn ?_ _ | refine Below.sc ?_ (by simp <;> omega) _ | refine Below.th ?_ (by assumption)))⟩
      · obtain ⟨k, rfl⟩ : ∃ k : Nat, n = k := ⟨n.toNat, by omega⟩
        obtain ⟨d, hd⟩ : ∃ d : Nat, m.d = d := ⟨m.d.toNat, by have := (rivOk_st em 0).2.2.1; omega⟩
        rw [ev] at KV
        rw [show ((k : Int)).toNat = k by omega] at KV
        have HIN := hopeH_in em k l h
        have KF := Aside.mk (fun (w : World) ha ho => filled_c A0 A1 Ao c0 c1 co m os d w ha em hd (by omega) ho HOS.out.2 (by omega))
        have HBT := Aside.mk (fun (m' : Riv) (hf : Fills m m') hok => chance_between em hf k l h hh hok)
        have KCH := Aside.mk (fun (m' : Riv) (hf : Fills m m') (down : Bool) (A0 A1 : Option Addr) (c0 c1 p mb B : Nat) (w : World) hk => chance_ok m' (hf.cnt em (by omega)) down A0 A1 c0 c1 p mb B k (by omega) l h w l0 l1 hh hk)
        have HO := Aside.mk HOS.out.1
        have HD := Lib.hid hd
        have HHH := Lib.hid hh
        unfold rivV FilledPost PlayPost at *
        unfold InH at HIN
        clear em ev hd hh
        generalize hopeH m k l h = H at *
        obtain ⟨⟨i0, i1⟩, i2, i3⟩ := HIN
        go_enter Try.func4, Try.ntmps4
        go_wp2_with fail
        generalize (w.alloc (.cells #[.int .i64 m.d, .slice A0 m.a.length c0, .slice A1 m.b.length c1] 25)).alloc (.cells #[.int .i64 k, .int .i64 l, .int .i64 h] 27) = v at *
        refine (KA.out _).mono ?_
        rintro e v1 ⟨rfl, zb⟩
        have X0 := X0.be zb
        have X1 := X1.be zb
        have HC := Aside.mk (HC.out.be zb)
        have HB := Below.th HB0 zb
        obtain ⟨x0, x1, x2⟩ := X0.three
        obtain ⟨y0, y1, y2⟩ := X1.three
        clear zb HB0 KA
        go_wp2_with fail
        refine (KG.out _ HC.out).mono ?_
        rintro e v2 ⟨rfl, zb⟩
        have HB := Below.th HB zb
        have X0 := X0.be zb
        have X1 := X1.be zb
        have HR := HCA.out _ (HC.out.be zb)
        clear x0 x1 x2 y0 y1 y2 zb HC HCA KG
        obtain ⟨x0, x1, x2⟩ := X0.three
        obtain ⟨y0, y1, y2⟩ := X1.three
        go_wp2_with fail
        refine (KV.out _ HR).mono ?_
        rintro e v3 ⟨rfl, zb⟩
        have X0 := (X0.be zb).al (.cells #[.int .i64 H.1, .int .i64 H.2] 43)
        have X1 := (X1.be zb).al (.cells #[.int .i64 H.1, .int .i64 H.2] 43)
        have XH := Blk.fresh v3 #[.int .i64 H.1, .int .i64 H.2] 43
        have HR := (HR.be zb).be (Below.al (Below.refl _ _) (.cells #[.int .i64 H.1, .int .i64 H.2] 43))
        have HB := Below.al (Below.th HB zb) (.cells #[.int .i64 H.1, .int .i64 H.2] 43)
        clear x0 x1 x2 y0 y1 y2 zb KV
        obtain ⟨x0, x1, x2⟩ := X0.three
        go_wp2_with fail
        refine (KF.out _ HR (HO.out.below HB)).mono ?_
        rintro e W ⟨B0, B1, d0, d1, m', rfl, hA, hF, zb⟩
        unfold rivV
        have HB := Below.th HB zb
        have X1 := X1.be zb
        have XH := XH.be zb
        clear x0 x1 x2 X0 HR KF
        generalize v3.heap.size = hB at *
        have hb2 : Below W.heap.size W (((((W.alloc (.cells #[.int .i64 m'.d, .slice B0 m'.a.length d0, .slice B1 m'.b.length d1] 25)).alloc (.map #[] 0)).alloc (.cells #[.int .i64 m'.d, .slice B0 m'.a.length d0, .slice B1 m'.b.length d1, .bool true, .bool false, .map (some (W.heap.size + 1))] 50)).alloc (.map #[] 0)).alloc (.cells #[.int .i64 m'.d, .slice B0 m'.a.length d0, .slice B1 m'.b.length d1, .bool false, .bool false, .map (some (W.heap.size + 1 + 1 + 1))] 50)) := (by repeat (with_reducible first | exact Below.refl _ _ | assumption | refine Below.al ?_ _ | refine Below.dr ?_ | refine Below.drn ?_ _ | refine Below.sc ?_ (by simp <;> omega) _ | refine Below.th ?_ (by assumption)))
        have M1 : MapAll encS (Qc true m' false) ((W.alloc (.cells #[.int .i64 m'.d, .slice B0 m'.a.length d0, .slice B1 m'.b.length d1] 25)).alloc (.map #[] 0)) (W.heap.size + 1) := by
          have := MapAll.new encS (Qc true m' false) (W.alloc (.cells #[.int .i64 m'.d, .slice B0 m'.a.length d0, .slice B1 m'.b.length d1] 25))
          simpa using this
        have M2 : MapAll encS (Qc false m' false) ((((W.alloc (.cells #[.int .i64 m'.d, .slice B0 m'.a.length d0, .slice B1 m'.b.length d1] 25)).alloc (.map #[] 0)).alloc (.cells #[.int .i64 m'.d, .slice B0 m'.a.length d0, .slice B1 m'.b.length d1, .bool true, .bool false, .map (some (W.heap.size + 1))] 50)).alloc (.map #[] 0)) (W.heap.size + 1 + 1 + 1) := by
          have := MapAll.new encS (Qc false m' false) (((W.alloc (.cells #[.int .i64 m'.d, .slice B0 m'.a.length d0, .slice B1 m'.b.length d1] 25)).alloc (.map #[] 0)).alloc (.cells #[.int .i64 m'.d, .slice B0 m'.a.length d0, .slice B1 m'.b.length d1, .bool true, .bool false, .map (some (W.heap.size + 1))] 50))
          simpa using this
        have EA : Blk (((((W.alloc (.cells #[.int .i64 m'.d, .slice B0 m'.a.length d0, .slice B1 m'.b.length d1] 25)).alloc (.map #[] 0)).alloc (.cells #[.int .i64 m'.d, .slice B0 m'.a.length d0, .slice B1 m'.b.length d1, .bool true, .bool false, .map (some (W.heap.size + 1))] 50)).alloc (.map #[] 0)).alloc (.cells #[.int .i64 m'.d, .slice B0 m'.a.length d0, .slice B1 m'.b.length d1, .bool false, .bool false, .map (some (W.heap.size + 1 + 1 + 1))] 50)) (W.heap.size + 1 + 1) #[.int .i64 m'.d, .slice B0 m'.a.length d0, .slice B1 m'.b.length d1, .bool true, .bool false, .map (some (W.heap.size + 1))] 50 := ((Blk.fresh' (by simp)).al _).al _
        have EB : Blk (((((W.alloc (.cells #[.int .i64 m'.d, .slice B0 m'.a.length d0, .slice B1 m'.b.length d1] 25)).alloc (.map #[] 0)).alloc (.cells #[.int .i64 m'.d, .slice B0 m'.a.length d0, .slice B1 m'.b.length d1, .bool true, .bool false, .map (some (W.heap.size + 1))] 50)).alloc (.map #[] 0)).alloc (.cells #[.int .i64 m'.d, .slice B0 m'.a.length d0, .slice B1 m'.b.length d1, .bool false, .bool false, .map (some (W.heap.size + 1 + 1 + 1))] 50)) (W.heap.size + 1 + 1 + 1 + 1) #[.int .i64 m'.d, .slice B0 m'.a.length d0, .slice B1 m'.b.length d1, .bool false, .bool false, .map (some (W.heap.size + 1 + 1 + 1))] 50 := Blk.fresh' (by simp)
        have PKA : PlayK m' true B0 B1 d0 d1 (W.heap.size + 1 + 1) (W.heap.size + 1) W.heap.size false (((((W.alloc (.cells #[.int .i64 m'.d, .slice B0 m'.a.length d0, .slice B1 m'.b.length d1] 25)).alloc (.map #[] 0)).alloc (.cells #[.int .i64 m'.d, .slice B0 m'.a.length d0, .slice B1 m'.b.length d1, .bool true, .bool false, .map (some (W.heap.size + 1))] 50)).alloc (.map #[] 0)).alloc (.cells #[.int .i64 m'.d, .slice B0 m'.a.length d0, .slice B1 m'.b.length d1, .bool false, .bool false, .map (some (W.heap.size + 1 + 1 + 1))] 50)) :=
          ⟨EA, M1.below (Below.al (Below.al (Below.al (Below.refl _ _) _) _) _) (by simp), hA.ra.below hb2, hA.rb.below hb2, by omega, by omega, by omega⟩
        have PKB : PlayK m' false B0 B1 d0 d1 (W.heap.size + 1 + 1 + 1 + 1) (W.heap.size + 1 + 1 + 1) W.heap.size false (((((W.alloc (.cells #[.int .i64 m'.d, .slice B0 m'.a.length d0, .slice B1 m'.b.length d1] 25)).alloc (.map #[] 0)).alloc (.cells #[.int .i64 m'.d, .slice B0 m'.a.length d0, .slice B1 m'.b.length d1, .bool true, .bool false, .map (some (W.heap.size + 1))] 50)).alloc (.map #[] 0)).alloc (.cells #[.int .i64 m'.d, .slice B0 m'.a.length d0, .slice B1 m'.b.length d1, .bool false, .bool false, .map (some (W.heap.size + 1 + 1 + 1))] 50)) :=
          ⟨EB, M2.below (Below.al (Below.refl _ _) _) (by simp), hA.ra.below hb2, hA.rb.below hb2, by omega, by omega, by omega⟩
        have hwW : w.heap.size + 1 < W.heap.size := X1.lt
        have hHW : hB < W.heap.size := XH.lt
        have X1 := X1.be hb2
        have XH := XH.be hb2
        have HB := Below.th HB hb2
        have KCA := Aside.mk (fun (w : World) hk => KCH.out m' hF true B0 B1 d0 d1 (W.heap.size + 1 + 1) (W.heap.size + 1) W.heap.size w hk)
        have KCB := Aside.mk (fun (w : World) hk => KCH.out m' hF false B0 B1 d0 d1 (W.heap.size + 1 + 1 + 1 + 1) (W.heap.size + 1 + 1 + 1) W.heap.size w hk)
        have BT := Aside.mk (fun hok => HBT.out m' hF hok)
        have HKK := Aside.mk (And.intro PKA (And.intro PKB (And.intro X1 (And.intro XH HB))))
        clear M1 M2 EA EB PKA PKB X1 XH HB hb2 hA zb KCH HBT hF
        go_wp2_with fail
        generalize (((((W.alloc (.cells #[.int .i64 m'.d, .slice B0 m'.a.length d0, .slice B1 m'.b.length d1] 25)).alloc (.map #[] 0)).alloc (.cells #[.int .i64 m'.d, .slice B0 m'.a.length d0, .slice B1 m'.b.length d1, .bool true, .bool false, .map (some (W.heap.size + 1))] 50)).alloc (.map #[] 0)).alloc (.cells #[.int .i64 m'.d, .slice B0 m'.a.length d0, .slice B1 m'.b.length d1, .bool false, .bool false, .map (some (W.heap.size + 1 + 1 + 1))] 50)) = v4 at *
        obtain ⟨PKA, PKB, X1, XH, HB⟩ := HKK.out
        have PKB1 : ∀ wa, Kept2 (W.heap.size + 1 + 1) (W.heap.size + 1) v4.drew wa → PlayK m' false B0 B1 d0 d1 (W.heap.size + 1 + 1 + 1 + 1) (W.heap.size + 1 + 1 + 1) W.heap.size false wa := fun wa kp => by
          have h4 := PKB.be (Below.dr (Below.refl _ _))
          have hb := kp.below (B := W.heap.size) (by omega) (by omega) (by have := PKB.blk.lt; show W.heap.size ≤ v4.heap.size; omega)
          exact ⟨h4.blk.kept2 kp (by omega) (by omega), h4.memo.at (kp.block _ h4.memo.lt (by omega) (by omega)), h4.ra.below hb, h4.rb.below hb, h4.hp, h4.hm, h4.ne⟩
        have S0 := X1.three
        have hlt4 := PKB.blk.lt
        clear HKK
        go_region_held3 (fun W' => W'.cell? ⟨w.heap.size + 1, 0, none⟩ = some (.int .i64 k) ∧ W'.cell? ⟨w.heap.size + 1, 1, none⟩ = some (.int .i64 l) ∧ W'.cell? ⟨w.heap.size + 1, 2, none⟩ = some (.int .i64 h))
          (first | exact S0 | exact S1 | exact S2 | go_keep)
          (first
            | (go_at_call 19; (with_reducible refine (KCA.out _ (PKA.be (Below.dr (Below.refl _ _)))).mono ?_); rintro e wa ⟨va, oa, rfl, ⟨va0, va1⟩, hva, kpa, KA1⟩; have XA := (X1.be (Below.dr (Below.refl _ _))).kept2 kpa (by omega) (by omega); have S1 := XA.three)
            | (go_at_call 19; (with_reducible refine (KCB.out _ (PKB1 wa kpa)).mono ?_); rintro e wb ⟨vb, ob, rfl, ⟨vb0, vb1⟩, hvb, kpb, KB1⟩; have XB := XA.kept2 kpb (by omega) (by omega); have S2 := XB.three)
            | fail)
        all_goals
          have BLA := KA1.blk.kept2 kpb (by omega) (by omega)
          have pa4 := BLA.six.2.2.1
          have pb4 := KB1.blk.six.2.2.1
          have HBE := Below.th' HB ((kpa.th_below (Nat.le_of_lt (show w.heap.size < v4.drew.heap.size by show w.heap.size < v4.heap.size; omega)) (by omega) (by omega)).trans (kpb.below (B := w.heap.size) (by omega) (by omega) (by have := kpa.size; have : W.heap.size ≤ wa.heap.size := (by have : v4.heap.size ≤ wa.heap.size := this; omega); omega)))
          have XHE := ((XH.be (Below.dr (Below.refl _ _))).kept2 kpa (by omega) (by omega)).kept2 kpb (by omega) (by omega)
          obtain ⟨q0, q1⟩ := XHE.two
          have hbl := XHE.lt
          have HVA := Lib.hid hva
          have HVB := Lib.hid hvb
          have HE := Aside.mk HBE
          clear hva hvb S0 S1 S2 X1 XH XA XB XHE HB HBE PKA PKB PKB1 KCA KCB kpa kpb KA1 KB1 BLA
          cases oa
          · cases ob
            · obtain ⟨e1, o1⟩ := HVA.out (by first | rfl | trivial)
              obtain ⟨e2, o2⟩ := HVB.out (by first | rfl | trivial)
              have hbt := BT.out o1
              rw [← e1, ← e2] at hbt
              obtain ⟨t1, t2, t3⟩ := hbt
              clear e1 e2 o1 o2 HVA HVB BT
              go_wp2
              go_ret
              exact ⟨rfl, HE.out⟩
            · clear HVA HVB BT
              go_wp2
              go_ret
              exact ⟨rfl, HE.out⟩
          · clear HVA HVB BT
            go_wp2
            go_ret
            exact ⟨rfl, HE.out⟩
end Go.Proofs.Ytjbgdpbeabakiaa
