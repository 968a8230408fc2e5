/- Contracts of the reference: Call, CheckCall, Throw. -/
import Derived.Test.YtknpkldmihhddaaW1
import Derived.Test.YtknpkldmihhddaaT1
namespace Go.Proofs.Ytknpkldmihhddaa
open Go.RowKit
set_option linter.unusedVariables false
set_option linter.unusedSimpArgs false

theorem scene_body (t n x y u v s : Int) : sceneOk [⟨t, n, x, y, u, v, s, false⟩] = bodyOk t n x y u v s := by simp [scene_one, Bod.ok, Bod.fine]
theorem five2 {p q m : Int} : p < 0 ∨ (0 ≤ p ∧ m < p) ∨ (0 ≤ p ∧ p ≤ m ∧ q < 0) ∨ (0 ≤ p ∧ p ≤ m ∧ 0 ≤ q ∧ m < q) ∨ (0 ≤ p ∧ p ≤ m ∧ 0 ≤ q ∧ q ≤ m) := by omega
set_option maxHeartbeats 4000000 in
set_option maxRecDepth 100000 in
theorem RefCall_c (t n x y u v s : Int) (B : Option Addr) (c : Nat) (l : List Brm) (p q : Int) (w : World) (hr : Arr w B (brooms l)) (hl : l.length < 4294967296) :
    Calls Try.prog 29 #[.agg #[.int .i64 t, .int .i64 n, .int .i64 x, .int .i64 y, .int .i64 u, .int .i64 v, .int .i64 s, .slice B l.length c, .int .i64 p, .int .i64 q]] w fun e w' => e = .returned (.bool (callOk t n x y u v s l p q)) ∧ Below w.heap.size w w' := by
  have K1 := Aside.mk (fun w => RefBody_c t n x y u v s false w)
  have K2 := Aside.mk (fun w hr => RefBrooms_c B c l w hr hl)
  have K3 := Aside.mk (fun w => RefRest_c x y u v s w)
  by_cases h : bodyOk t n x y u v s = true ∧ broomsOk l = true ∧ restB u v = false
  · obtain ⟨e1, e2, e3⟩ := h
    have HE := Lib.hid (show bodyOk t n x y u v s = true ∧ broomsOk l = true ∧ restB u v = false from ⟨e1, e2, e3⟩)
    rw [e1] at K1; rw [e2] at K2; rw [e3] at K3
    clear e1 e2 e3
    rcases @five2 p q 8192000 with h | ⟨h, h1⟩ | ⟨h, h1, h2⟩ | ⟨h, h1, h2, h3⟩ | ⟨h, h1, h2, h3⟩
    all_goals
      go_enter Try.func29, Try.ntmps29
      go_wp2_with (first | (go_at_call 31; refine (refbody_c _ _ _ _ _ _ _ _ _ _ _ _ _).mono ?_; rintro e w' ⟨rfl, zb⟩; obtain ⟨zc, zf⟩ := bcell zb; have zz := zb.size; (try simp at zz); (try have zq := fun b (h : b < w.heap.size) => (by omega : b < w'.heap.size)); (try have zq0 : w.heap.size < w'.heap.size := by omega); (try have zq1 : w.heap.size + 1 < w'.heap.size := by omega); (try have zq2 : w.heap.size + 2 < w'.heap.size := by omega); (try have zr0 : wr.heap.size < w'.heap.size := by omega); (try have zr1 : wr.heap.size + 1 < w'.heap.size := by omega)) | (go_at_call 32; refine (K1.out _).mono ?_; rintro e w' ⟨rfl, zb⟩; obtain ⟨zc, zf⟩ := bcell zb; have zz := zb.size; (try simp at zz); (try have zq := fun b (h : b < w.heap.size) => (by omega : b < w'.heap.size)); (try have zq0 : w.heap.size < w'.heap.size := by omega); (try have zq1 : w.heap.size + 1 < w'.heap.size := by omega); (try have zq2 : w.heap.size + 2 < w'.heap.size := by omega); (try have zr0 : wr.heap.size < w'.heap.size := by omega); (try have zr1 : wr.heap.size + 1 < w'.heap.size := by omega)) | (go_at_call 53; refine (K2.out _ (by repeat (first | exact hr | refine Arr.below ?_ (by assumption) | refine Arr.al ?_ _))).mono ?_; rintro e w' ⟨rfl, zb⟩; obtain ⟨zc, zf⟩ := bcell zb; have zz := zb.size; (try simp at zz); (try have zq := fun b (h : b < w.heap.size) => (by omega : b < w'.heap.size)); (try have zq0 : w.heap.size < w'.heap.size := by omega); (try have zq1 : w.heap.size + 1 < w'.heap.size := by omega); (try have zq2 : w.heap.size + 2 < w'.heap.size := by omega); (try have zr0 : wr.heap.size < w'.heap.size := by omega); (try have zr1 : wr.heap.size + 1 < w'.heap.size := by omega)) | (go_at_call 54; refine (K3.out _).mono ?_; rintro e w' ⟨rfl, zb⟩; obtain ⟨zc, zf⟩ := bcell zb; have zz := zb.size; (try simp at zz); (try have zq := fun b (h : b < w.heap.size) => (by omega : b < w'.heap.size)); (try have zq0 : w.heap.size < w'.heap.size := by omega); (try have zq1 : w.heap.size + 1 < w'.heap.size := by omega); (try have zq2 : w.heap.size + 2 < w'.heap.size := by omega); (try have zr0 : wr.heap.size < w'.heap.size := by omega); (try have zr1 : wr.heap.size + 1 < w'.heap.size := by omega)))
      go_ret
      exact ⟨ret_bool (by simp only [callOk, scene_body, HE.out.1, HE.out.2.1, HE.out.2.2]; rw [Bool.eq_iff_iff]; simp [inR]; omega), (by repeat (with_reducible first | exact Below.refl _ _ | assumption | refine Below.al ?_ _ | refine Below.dr ?_ | refine Below.drn ?_ _ | refine Below.sc ?_ (by simp <;> omega) _ | refine Below.th ?_ (by assumption)))⟩
  · have h3 : bodyOk t n x y u v s = false ∨ (bodyOk t n x y u v s = true ∧ broomsOk l = false) ∨ (bodyOk t n x y u v s = true ∧ broomsOk l = true ∧ restB u v = true) := by
      cases h1 : bodyOk t n x y u v s <;> cases h2 : broomsOk l <;> cases h3 : restB u v <;> simp [h1, h2, h3] at h ⊢
    clear h
    have HE := Lib.hid (show callOk t n x y u v s l p q = false by rcases h3 with h | ⟨h, h1⟩ | ⟨h, h1, h2⟩ <;> simp [callOk, scene_body, *])
    rcases h3 with h | ⟨h, h1⟩ | ⟨h, h1, h2⟩
    all_goals
      rw [h] at K1
      try rw [h1] at K2
      try rw [h2] at K3
      clear h
      try clear h1
      try clear h2
      go_enter Try.func29, Try.ntmps29
      go_wp2_with (first | (go_at_call 31; refine (refbody_c _ _ _ _ _ _ _ _ _ _ _ _ _).mono ?_; rintro e w' ⟨rfl, zb⟩; obtain ⟨zc, zf⟩ := bcell zb; have zz := zb.size; (try simp at zz); (try have zq := fun b (h : b < w.heap.size) => (by omega : b < w'.heap.size)); (try have zq0 : w.heap.size < w'.heap.size := by omega); (try have zq1 : w.heap.size + 1 < w'.heap.size := by omega); (try have zq2 : w.heap.size + 2 < w'.heap.size := by omega); (try have zr0 : wr.heap.size < w'.heap.size := by omega); (try have zr1 : wr.heap.size + 1 < w'.heap.size := by omega)) | (go_at_call 32; refine (K1.out _).mono ?_; rintro e w' ⟨rfl, zb⟩; obtain ⟨zc, zf⟩ := bcell zb; have zz := zb.size; (try simp at zz); (try have zq := fun b (h : b < w.heap.size) => (by omega : b < w'.heap.size)); (try have zq0 : w.heap.size < w'.heap.size := by omega); (try have zq1 : w.heap.size + 1 < w'.heap.size := by omega); (try have zq2 : w.heap.size + 2 < w'.heap.size := by omega); (try have zr0 : wr.heap.size < w'.heap.size := by omega); (try have zr1 : wr.heap.size + 1 < w'.heap.size := by omega)) | (go_at_call 53; refine (K2.out _ (by repeat (first | exact hr | refine Arr.below ?_ (by assumption) | refine Arr.al ?_ _))).mono ?_; rintro e w' ⟨rfl, zb⟩; obtain ⟨zc, zf⟩ := bcell zb; have zz := zb.size; (try simp at zz); (try have zq := fun b (h : b < w.heap.size) => (by omega : b < w'.heap.size)); (try have zq0 : w.heap.size < w'.heap.size := by omega); (try have zq1 : w.heap.size + 1 < w'.heap.size := by omega); (try have zq2 : w.heap.size + 2 < w'.heap.size := by omega); (try have zr0 : wr.heap.size < w'.heap.size := by omega); (try have zr1 : wr.heap.size + 1 < w'.heap.size := by omega)) | (go_at_call 54; refine (K3.out _).mono ?_; rintro e w' ⟨rfl, zb⟩; obtain ⟨zc, zf⟩ := bcell zb; have zz := zb.size; (try simp at zz); (try have zq := fun b (h : b < w.heap.size) => (by omega : b < w'.heap.size)); (try have zq0 : w.heap.size < w'.heap.size := by omega); (try have zq1 : w.heap.size + 1 < w'.heap.size := by omega); (try have zq2 : w.heap.size + 2 < w'.heap.size := by omega); (try have zr0 : wr.heap.size < w'.heap.size := by omega); (try have zr1 : wr.heap.size + 1 < w'.heap.size := by omega)))
      go_ret
      exact ⟨ret_bool (by rw [HE.out]), (by repeat (with_reducible first | exact Below.refl _ _ | assumption | refine Below.al ?_ _ | refine Below.dr ?_ | refine Below.drn ?_ _ | refine Below.sc ?_ (by simp <;> omega) _ | refine Below.th ?_ (by assumption)))⟩
theorem RefCheckCall_c (t n x y u v s : Int) (B : Option Addr) (c : Nat) (l : List Brm) (p q : Int) (w : World) (hr : Arr w B (brooms l)) (hl : l.length < 4294967296) :
    Calls Try.prog 11 #[.agg #[.int .i64 t, .int .i64 n, .int .i64 x, .int .i64 y, .int .i64 u, .int .i64 v, .int .i64 s, .slice B l.length c, .int .i64 p, .int .i64 q]] w fun e w' => e = .returned (.int .i64 (eArg (callOk t n x y u v s l p q))) ∧ Below w.heap.size w w' := by
  go_enter Try.func11, Try.ntmps11
  go_wp2_with (first | (go_at_call 29; refine (RefCall_c _ _ _ _ _ _ _ _ _ _ _ _ _ (Arr.al hr _) hl).mono ?_; rintro e w' ⟨rfl, zb⟩; obtain ⟨zc, zf⟩ := bcell zb; have zz := zb.size; (try simp at zz); (try have zq := fun b (h : b < w.heap.size) => (by omega : b < w'.heap.size)); (try have zq0 : w.heap.size < w'.heap.size := by omega); (try have zq1 : w.heap.size + 1 < w'.heap.size := by omega); (try have zq2 : w.heap.size + 2 < w'.heap.size := by omega); (try have zr0 : wr.heap.size < w'.heap.size := by omega); (try have zr1 : wr.heap.size + 1 < w'.heap.size := by omega)) | (go_at_call 37; refine (refcode_c _ _).mono ?_; rintro e w' ⟨rfl, rfl⟩))
  go_ret
  exact ⟨rfl, (by repeat (with_reducible first | exact Below.refl _ _ | assumption | refine Below.al ?_ _ | refine Below.dr ?_ | refine Below.drn ?_ _ | refine Below.sc ?_ (by simp <;> omega) _ | refine Below.th ?_ (by assumption)))⟩
set_option maxHeartbeats 4000000 in
set_option maxRecDepth 100000 in
theorem RefThrow_c (t n x y u v s : Int) (B : Option Addr) (c : Nat) (l : List Brm) (p q m : Int) (w : World) (hr : Arr w B (brooms l)) (hl : l.length < 4294967296) :
    Calls Try.prog 9 #[.agg #[.int .i64 t, .int .i64 n, .int .i64 x, .int .i64 y, .int .i64 u, .int .i64 v, .int .i64 s, .slice B l.length c, .int .i64 p, .int .i64 q], .int .i64 m] w fun e w' => e = .returned (thrV t n x y u v s l p q m) ∧ Below w.heap.size w w' := by
  have K1 := Aside.mk (fun w hr => RefCall_c t n x y u v s B c l p q w hr hl)
  have K2 := Aside.mk (fun w => ref10_in_c m 0 48 w)
  by_cases h : callOk t n x y u v s l p q = true ∧ inR m 0 48 = true
  · obtain ⟨e1, e2⟩ := h
    have HE := Lib.hid (show thrOk t n x y u v s l p q m = true by simp [thrOk, e1, e2])
    rw [e1] at K1; rw [e2] at K2
    have hb : sceneOk [⟨t, n, x, y, u, v, s, false⟩] = true ∧ inR p 0 8192000 = true ∧ inR q 0 8192000 = true := by simp [callOk] at e1; simp [e1]
    obtain ⟨u0, u1, v0, v1⟩ := scene_uv hb.1
    obtain ⟨p0, p1⟩ := inR_iff.1 hb.2.1
    obtain ⟨q0, q1⟩ := inR_iff.1 hb.2.2
    obtain ⟨m0, m1⟩ := inR_iff.1 e2
    clear e1 e2 hb
    obtain ⟨x1, x2⟩ := step_bd (k := m % 7 - 3) (by omega) (by omega) p0 p1
    obtain ⟨y1, y2⟩ := step_bd (k := m / 7 - 3) (by omega) (by omega) q0 q1
    have K3 := Aside.mk (fun w => RefBody_c t n x y (u + (m % 7 - 3) * p) (v + (m / 7 - 3) * q) s false w)
    cases e3 : throwOk t n x y u v s p q m
    · have HF := Lib.hid e3
      have e4 := (scene_body t n x y (u + missX m p) (v + missY m q) s).symm.trans e3
      simp only [missX, missY] at e4
      rw [e4] at K3
      clear e3 e4
      go_enter Try.func9, Try.ntmps9
      go_wp2_with (first | (go_at_call 29; refine (K1.out _ (by repeat (first | exact hr | refine Arr.below ?_ (by assumption) | refine Arr.al ?_ _))).mono ?_; rintro e w' ⟨rfl, zb⟩; obtain ⟨zc, zf⟩ := bcell zb; have zz := zb.size; (try simp at zz); (try have zq := fun b (h : b < w.heap.size) => (by omega : b < w'.heap.size)); (try have zq0 : w.heap.size < w'.heap.size := by omega); (try have zq1 : w.heap.size + 1 < w'.heap.size := by omega); (try have zq2 : w.heap.size + 2 < w'.heap.size := by omega); (try have zr0 : wr.heap.size < w'.heap.size := by omega); (try have zr1 : wr.heap.size + 1 < w'.heap.size := by omega)) | (go_at_call 31; refine (refbody_c _ _ _ _ _ _ _ _ _ _ _ _ _).mono ?_; rintro e w' ⟨rfl, zb⟩; obtain ⟨zc, zf⟩ := bcell zb; have zz := zb.size; (try simp at zz); (try have zq := fun b (h : b < w.heap.size) => (by omega : b < w'.heap.size)); (try have zq0 : w.heap.size < w'.heap.size := by omega); (try have zq1 : w.heap.size + 1 < w'.heap.size := by omega); (try have zq2 : w.heap.size + 2 < w'.heap.size := by omega); (try have zr0 : wr.heap.size < w'.heap.size := by omega); (try have zr1 : wr.heap.size + 1 < w'.heap.size := by omega)) | (go_at_call 32; refine (K3.out _).mono ?_; rintro e w' ⟨rfl, zb⟩; obtain ⟨zc, zf⟩ := bcell zb; have zz := zb.size; (try simp at zz); (try have zq := fun b (h : b < w.heap.size) => (by omega : b < w'.heap.size)); (try have zq0 : w.heap.size < w'.heap.size := by omega); (try have zq1 : w.heap.size + 1 < w'.heap.size := by omega); (try have zq2 : w.heap.size + 2 < w'.heap.size := by omega); (try have zr0 : wr.heap.size < w'.heap.size := by omega); (try have zr1 : wr.heap.size + 1 < w'.heap.size := by omega)) | (go_at_call 30; refine (K2.out _).mono ?_; rintro e w' ⟨rfl, rfl⟩))
      refine bodyPost_ret (v := .tuple #[.agg #[.int .i64 0, .int .i64 0, .int .i64 0, .int .i64 0, .int .i64 0, .int .i64 0, .int .i64 0, .bool false], .int .i64 4]) (by simp [*, results, Try.results9, go_sem]) rfl ?_
      exact ⟨by simp [thrV, HE.out, HF.out, missX, missY], (by repeat (with_reducible first | exact Below.refl _ _ | assumption | refine Below.al ?_ _ | refine Below.dr ?_ | refine Below.drn ?_ _ | refine Below.sc ?_ (by simp <;> omega) _ | refine Below.th ?_ (by assumption)))⟩
    · have HF := Lib.hid e3
      have e4 := (scene_body t n x y (u + missX m p) (v + missY m q) s).symm.trans e3
      simp only [missX, missY] at e4
      rw [e4] at K3
      clear e3 e4
      go_enter Try.func9, Try.ntmps9
      go_wp2_with (first | (go_at_call 29; refine (K1.out _ (by repeat (first | exact hr | refine Arr.below ?_ (by assumption) | refine Arr.al ?_ _))).mono ?_; rintro e w' ⟨rfl, zb⟩; obtain ⟨zc, zf⟩ := bcell zb; have zz := zb.size; (try simp at zz); (try have zq := fun b (h : b < w.heap.size) => (by omega : b < w'.heap.size)); (try have zq0 : w.heap.size < w'.heap.size := by omega); (try have zq1 : w.heap.size + 1 < w'.heap.size := by omega); (try have zq2 : w.heap.size + 2 < w'.heap.size := by omega); (try have zr0 : wr.heap.size < w'.heap.size := by omega); (try have zr1 : wr.heap.size + 1 < w'.heap.size := by omega)) | (go_at_call 31; refine (refbody_c _ _ _ _ _ _ _ _ _ _ _ _ _).mono ?_; rintro e w' ⟨rfl, zb⟩; obtain ⟨zc, zf⟩ := bcell zb; have zz := zb.size; (try simp at zz); (try have zq := fun b (h : b < w.heap.size) => (by omega : b < w'.heap.size)); (try have zq0 : w.heap.size < w'.heap.size := by omega); (try have zq1 : w.heap.size + 1 < w'.heap.size := by omega); (try have zq2 : w.heap.size + 2 < w'.heap.size := by omega); (try have zr0 : wr.heap.size < w'.heap.size := by omega); (try have zr1 : wr.heap.size + 1 < w'.heap.size := by omega)) | (go_at_call 32; refine (K3.out _).mono ?_; rintro e w' ⟨rfl, zb⟩; obtain ⟨zc, zf⟩ := bcell zb; have zz := zb.size; (try simp at zz); (try have zq := fun b (h : b < w.heap.size) => (by omega : b < w'.heap.size)); (try have zq0 : w.heap.size < w'.heap.size := by omega); (try have zq1 : w.heap.size + 1 < w'.heap.size := by omega); (try have zq2 : w.heap.size + 2 < w'.heap.size := by omega); (try have zr0 : wr.heap.size < w'.heap.size := by omega); (try have zr1 : wr.heap.size + 1 < w'.heap.size := by omega)) | (go_at_call 30; refine (K2.out _).mono ?_; rintro e w' ⟨rfl, rfl⟩))
      refine bodyPost_ret (v := .tuple #[.agg #[.int .i64 t, .int .i64 n, .int .i64 x, .int .i64 y, .int .i64 (u + (m % 7 - 3) * p), .int .i64 (v + (m / 7 - 3) * q), .int .i64 s, .bool false], .int .i64 0]) (by simp [*, results, Try.results9, go_sem]) rfl ?_
      exact ⟨by simp [thrV, HE.out, HF.out, missX, missY], (by repeat (with_reducible first | exact Below.refl _ _ | assumption | refine Below.al ?_ _ | refine Below.dr ?_ | refine Below.drn ?_ _ | refine Below.sc ?_ (by simp <;> omega) _ | refine Below.th ?_ (by assumption)))⟩
  · have h3 : callOk t n x y u v s l p q = false ∨ (callOk t n x y u v s l p q = true ∧ inR m 0 48 = false) := by
      cases h1 : callOk t n x y u v s l p q <;> cases h2 : inR m 0 48 <;> simp [h1, h2] at h ⊢
    clear h
    have HE := Lib.hid (show thrOk t n x y u v s l p q m = false by rcases h3 with h | ⟨h, h1⟩ <;> simp [thrOk, *])
    rcases h3 with h | ⟨h, h1⟩
    all_goals
      rw [h] at K1
      try rw [h1] at K2
      clear h
      try clear h1
      go_enter Try.func9, Try.ntmps9
      go_wp2_with (first | (go_at_call 29; refine (K1.out _ (by repeat (first | exact hr | refine Arr.below ?_ (by assumption) | refine Arr.al ?_ _))).mono ?_; rintro e w' ⟨rfl, zb⟩; obtain ⟨zc, zf⟩ := bcell zb; have zz := zb.size; (try simp at zz); (try have zq := fun b (h : b < w.heap.size) => (by omega : b < w'.heap.size)); (try have zq0 : w.heap.size < w'.heap.size := by omega); (try have zq1 : w.heap.size + 1 < w'.heap.size := by omega); (try have zq2 : w.heap.size + 2 < w'.heap.size := by omega); (try have zr0 : wr.heap.size < w'.heap.size := by omega); (try have zr1 : wr.heap.size + 1 < w'.heap.size := by omega)) | (go_at_call 30; refine (K2.out _).mono ?_; rintro e w' ⟨rfl, rfl⟩))
      refine bodyPost_ret (v := .tuple #[.agg #[.int .i64 0, .int .i64 0, .int .i64 0, .int .i64 0, .int .i64 0, .int .i64 0, .int .i64 0, .bool false], .int .i64 2]) (by simp [*, results, Try.results9, go_sem]) rfl ?_
      exact ⟨by simp [thrV, HE.out], (by repeat (with_reducible first | exact Below.refl _ _ | assumption | refine Below.al ?_ _ | refine Below.dr ?_ | refine Below.drn ?_ _ | refine Below.sc ?_ (by simp <;> omega) _ | refine Below.th ?_ (by assumption)))⟩
end Go.Proofs.Ytknpkldmihhddaa
