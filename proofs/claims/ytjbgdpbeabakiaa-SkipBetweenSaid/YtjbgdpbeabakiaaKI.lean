/- Chapter 11: contracts of the reference's next and Next. -/
import Derived.Test.YtjbgdpbeabakiaaKH
namespace Go.Proofs.Ytjbgdpbeabakiaa
open Go.RowKit Go.Shelf
set_option linter.unusedVariables false
set_option linter.unusedSimpArgs false
set_option maxHeartbeats 1000000 in
set_option maxRecDepth 100000 in
theorem refnext_c (n l h p : Int) (w : World) (n0 : 0 ≤ n) (n1 : n ≤ 12) (l0 : -96 ≤ l) (l1 : l ≤ 96) (hh : h = 0 ∨ h = 1) (p0 : -8 ≤ p) (p1 : p ≤ 8) :
    Calls Try.prog 28 #[.agg #[.int .i64 n, .int .i64 l, .int .i64 h], .int .i64 p] w fun e w' => e = .returned (.agg #[.int .i64 (n - 1), .int .i64 (nextL l h p), .int .i64 (nextH h p)]) ∧ Below w.heap.size w w' := by
  rcases hh with rfl | rfl
  · by_cases hp : 0 < p
    all_goals
      go_enter Try.func28, Try.ntmps28
      go_wp2
      all_goals
        refine bodyPost_ret (v := .agg #[.int .i64 (n - 1), .int .i64 (nextL l 0 p), .int .i64 (nextH 0 p)]) (by simp [results, Try.results28, go_sem, nextL, clampL, nextH, *] <;> omega) rfl ?_
        exact ⟨rfl, (by repeat (with_reducible first | exact Below.refl _ _ | assumption | refine Below.al ?_ _ | refine Below.dr ?_ | refine Below.drn ?_ _ | refine Below.sc ?_ (by simp <;> omega) _ | refine Below.th ?_ (by assumption)))⟩
  · by_cases hp : 0 < p
    all_goals
      go_enter Try.func28, Try.ntmps28
      go_wp2
      all_goals
        refine bodyPost_ret (v := .agg #[.int .i64 (n - 1), .int .i64 (nextL l 1 p), .int .i64 (nextH 1 p)]) (by simp [results, Try.results28, go_sem, nextL, clampL, nextH, *] <;> omega) rfl ?_
        exact ⟨rfl, (by repeat (with_reducible first | exact Below.refl _ _ | assumption | refine Below.al ?_ _ | refine Below.dr ?_ | refine Below.drn ?_ _ | refine Below.sc ?_ (by simp <;> omega) _ | refine Below.th ?_ (by assumption)))⟩
set_option maxHeartbeats 1000000 in
set_option maxRecDepth 100000 in
theorem RefNext_c (n l h p : Int) (w : World) : Calls Try.prog 11 #[.agg #[.int .i64 n, .int .i64 l, .int .i64 h], .int .i64 p] w fun e w' => e = .returned (nextV n l h p) ∧ Below w.heap.size w w' := by
  have K1 := Aside.mk (fun w => RefState_c n l h w)
  have HB0 : Below w.heap.size w ((w.alloc (.cells #[.int .i64 n, .int .i64 l, .int .i64 h] 27)).alloc (.cells #[.int .i64 0, .int .i64 0, .int .i64 0] 27)) := (by repeat (with_reducible first | exact Below.refl _ _ | assumption | refine Below.al ?_ _ | refine Below.dr ?_ | refine Below.drn ?_ _ | refine Below.sc ?_ (by simp <;> omega) _ | refine Below.th ?_ (by assumption)))
  have X0 : Blk ((w.alloc (.cells #[.int .i64 n, .int .i64 l, .int .i64 h] 27)).alloc (.cells #[.int .i64 0, .int .i64 0, .int .i64 0] 27)) w.heap.size #[.int .i64 n, .int .i64 l, .int .i64 h] 27 := (Blk.fresh _ _ _).al _
  have X1 : Blk ((w.alloc (.cells #[.int .i64 n, .int .i64 l, .int .i64 h] 27)).alloc (.cells #[.int .i64 0, .int .i64 0, .int .i64 0] 27)) (w.heap.size + 1) #[.int .i64 0, .int .i64 0, .int .i64 0] 27 := Blk.fresh' (by simp)
  have hcase : stOk n l h = false ∨ (stOk n l h = true ∧ inR p (-8) 8 = false) ∨ (stOk n l h = true ∧ inR p (-8) 8 = true ∧ n = 0) ∨ (stOk n l h = true ∧ inR p (-8) 8 = true ∧ ¬ n = 0) := by
    cases stOk n l h <;> cases inR p (-8) 8 <;> by_cases hn : n = 0 <;> simp [hn]
  have tail : ∀ v : World, Blk v (w.heap.size + 1) #[.int .i64 0, .int .i64 0, .int .i64 0] 27 → (v.cell? ⟨w.heap.size + 1, 0, none⟩ = some (.int .i64 0) ∧ v.cell? ⟨w.heap.size + 1, 1, none⟩ = some (.int .i64 0) ∧ v.cell? ⟨w.heap.size + 1, 2, none⟩ = some (.int .i64 0)) ∧ v.frozen? ⟨w.heap.size + 1, 0, none⟩ = false ∧ v.frozen? ⟨w.heap.size + 1, 1, none⟩ = false ∧ v.frozen? ⟨w.heap.size + 1, 2, none⟩ = false := fun v h =>
    ⟨⟨by rw [h.cell]; rfl, by rw [h.cell]; rfl, by rw [h.cell]; rfl⟩, h.frozen 0, h.frozen 1, h.frozen 2⟩
  have TL := Aside.mk tail
  clear tail
  rcases hcase with e1 | ⟨e1, e2⟩ | ⟨e1, e2, rfl⟩ | ⟨e1, e2, hn⟩
  · have HE := Lib.hid (show nextV n l h p = .tuple #[.agg #[.int .i64 0, .int .i64 0, .int .i64 0], .int .i64 2] by simp [nextV, e1])
    rw [e1] at K1
    go_enter Try.func11, Try.ntmps11
    go_wp2_with fail
    generalize (w.alloc (.cells #[.int .i64 n, .int .i64 l, .int .i64 h] 27)).alloc (.cells #[.int .i64 0, .int .i64 0, .int .i64 0] 27) = v at *
    refine (K1.out _).mono ?_
    rintro e w' ⟨rfl, zb⟩
    obtain ⟨⟨x0, x1, x2⟩, f0, f1, f2⟩ := TL.out _ (X1.be zb)
    have HB := Below.th HB0 zb
    clear zb HB0 X0 X1 e1
    go_wp2
    refine bodyPost_ret (v := .tuple #[.agg #[.int .i64 0, .int .i64 0, .int .i64 0], .int .i64 2]) (by simp [x0, x1, x2, results, Try.results11, go_sem]) rfl ?_
    exact ⟨by rw [HE.out], (by repeat (with_reducible first | exact Below.refl _ _ | assumption | refine Below.al ?_ _ | refine Below.dr ?_ | refine Below.drn ?_ _ | refine Below.sc ?_ (by simp <;> omega) _ | refine Below.th ?_ (by assumption)))⟩
  · have HE := Lib.hid (show nextV n l h p = .tuple #[.agg #[.int .i64 0, .int .i64 0, .int .i64 0], .int .i64 2] by simp [nextV, e2])
    rw [e1] at K1
    go_enter Try.func11, Try.ntmps11
    go_wp2_with fail
    generalize (w.alloc (.cells #[.int .i64 n, .int .i64 l, .int .i64 h] 27)).alloc (.cells #[.int .i64 0, .int .i64 0, .int .i64 0] 27) = v at *
    refine (K1.out _).mono ?_
    rintro e w' ⟨rfl, zb⟩
    obtain ⟨⟨x0, x1, x2⟩, f0, f1, f2⟩ := TL.out _ (X1.be zb)
    have HB := Below.th HB0 zb
    clear zb HB0 X0 X1 e1
    go_wp2_with (go_at_call 27; refine (ref11_in_c _ _ _ _).mono ?_; rintro e w' ⟨rfl, rfl⟩)
    refine bodyPost_ret (v := .tuple #[.agg #[.int .i64 0, .int .i64 0, .int .i64 0], .int .i64 2]) (by simp [x0, x1, x2, results, Try.results11, go_sem]) rfl ?_
    exact ⟨by rw [HE.out], (by repeat (with_reducible first | exact Below.refl _ _ | assumption | refine Below.al ?_ _ | refine Below.dr ?_ | refine Below.drn ?_ _ | refine Below.sc ?_ (by simp <;> omega) _ | refine Below.th ?_ (by assumption)))⟩
  · have HE := Lib.hid (show nextV 0 l h p = .tuple #[.agg #[.int .i64 0, .int .i64 0, .int .i64 0], .int .i64 9] by simp [nextV, e1, e2])
    rw [e1] at K1
    go_enter Try.func11, Try.ntmps11
    go_wp2_with fail
    generalize (w.alloc (.cells #[.int .i64 0, .int .i64 l, .int .i64 h] 27)).alloc (.cells #[.int .i64 0, .int .i64 0, .int .i64 0] 27) = v at *
    refine (K1.out _).mono ?_
    rintro e w' ⟨rfl, zb⟩
    obtain ⟨⟨x0, x1, x2⟩, f0, f1, f2⟩ := TL.out _ (X1.be zb)
    have y0 := ((X0.be zb).cell 0).trans (show _ = some (.int .i64 0) from rfl)
    have HB := Below.th HB0 zb
    clear zb HB0 X0 X1 e1
    go_wp2_with (go_at_call 27; refine (ref11_in_c _ _ _ _).mono ?_; rintro e w' ⟨rfl, rfl⟩)
    refine bodyPost_ret (v := .tuple #[.agg #[.int .i64 0, .int .i64 0, .int .i64 0], .int .i64 9]) (by simp [x0, x1, x2, results, Try.results11, go_sem]) rfl ?_
    exact ⟨by rw [HE.out], (by repeat (with_reducible first | exact Below.refl _ _ | assumption | refine Below.al ?_ _ | refine Below.dr ?_ | refine Below.drn ?_ _ | refine Below.sc ?_ (by simp <;> omega) _ | refine Below.th ?_ (by assumption)))⟩
  · have HE := Lib.hid (show nextV n l h p = .tuple #[.agg #[.int .i64 (n - 1), .int .i64 (nextL l h p), .int .i64 (nextH h p)], .int .i64 0] by simp [nextV, e1, e2, hn])
    obtain ⟨⟨n0, n1⟩, ⟨l0, l1⟩, hh⟩ := stOk_iff e1
    obtain ⟨p0, p1⟩ := inR_iff.1 e2
    have KN := Aside.mk (fun w => refnext_c n l h p w n0 n1 l0 l1 hh p0 p1)
    have hz : (n == 0) = false := by simp [hn]
    rw [e1] at K1
    go_enter Try.func11, Try.ntmps11
    go_wp2_with fail
    generalize (w.alloc (.cells #[.int .i64 n, .int .i64 l, .int .i64 h] 27)).alloc (.cells #[.int .i64 0, .int .i64 0, .int .i64 0] 27) = v at *
    refine (K1.out _).mono ?_
    rintro e w' ⟨rfl, zb⟩
    have X0 := X0.be zb
    have y0 := (X0.cell 0).trans (show _ = some (.int .i64 n) from rfl)
    have y1 := (X0.cell 1).trans (show _ = some (.int .i64 l) from rfl)
    have y2 := (X0.cell 2).trans (show _ = some (.int .i64 h) from rfl)
    have X1 := X1.be zb
    have HB := Below.th HB0 zb
    clear zb HB0 X0 e1 hh
    go_wp2_with (go_at_call 27; refine (ref11_in_c _ _ _ _).mono ?_; rintro e w' ⟨rfl, rfl⟩)
    refine (KN.out _).mono ?_
    rintro e w2 ⟨rfl, zb⟩
    obtain ⟨⟨x0, x1, x2⟩, f0, f1, f2⟩ := TL.out _ (X1.be zb)
    have HB := Below.th HB zb
    clear zb X1
    go_wp2
    refine bodyPost_ret (v := .tuple #[.agg #[.int .i64 (n - 1), .int .i64 (nextL l h p), .int .i64 (nextH h p)], .int .i64 0]) (by simp [x0, x1, x2, results, Try.results11, go_sem]) rfl ?_
    exact ⟨by rw [HE.out], (by repeat (with_reducible first | exact Below.refl _ _ | assumption | refine Below.al ?_ _ | refine Below.dr ?_ | refine Below.drn ?_ _ | refine Below.sc ?_ (by simp <;> omega) _ | refine Below.th ?_ (by assumption)))⟩
end Go.Proofs.Ytjbgdpbeabakiaa
