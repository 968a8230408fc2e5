/- Contracts of the reference: Spot, Moving, Body, Brooms, Rest, Call, CheckCall. -/
import Derived.Test.YtknpkldmihhddaaB4
import Derived.Test.YtknpkldmihhddaaQ
import Derived.Deep.RegionWith
namespace Go.Proofs.Ytknpkldmihhddaa
open Go.RowKit
set_option linter.unusedVariables false
set_option linter.unusedSimpArgs false

theorem five {x y m : Int} : x < -m ∨ (-m ≤ x ∧ m < x) ∨ (-m ≤ x ∧ x ≤ m ∧ y < -m) ∨ (-m ≤ x ∧ x ≤ m ∧ -m ≤ y ∧ m < y) ∨ (-m ≤ x ∧ x ≤ m ∧ -m ≤ y ∧ y ≤ m) := by omega
theorem Spot_c (x y : Int) (w : World) : Calls Try.prog 68 #[.agg #[.int .i64 x, .int .i64 y]] w fun e w' => e = .returned (.bool (sqB x y 6553600000)) ∧ Below w.heap.size w w' := by
  rcases @five x y 6553600000 with h | ⟨h, h1⟩ | ⟨h, h1, h2⟩ | ⟨h, h1, h2, h3⟩ | ⟨h, h1, h2, h3⟩
  all_goals
    go_enter Try.func68, Try.ntmps68
    go_wp2
    go_ret
    exact ⟨ret_bool (by rw [Bool.eq_iff_iff]; simp [sqB, inR] <;> omega), (by repeat (with_reducible first | exact Below.refl _ _ | assumption | refine Below.al ?_ _ | refine Below.dr ?_ | refine Below.drn ?_ _ | refine Below.sc ?_ (by simp <;> omega) _ | refine Below.th ?_ (by assumption)))⟩
theorem eleven {u v m : Int} : (u < -m ∧ v < -m) ∨ (u < -m ∧ -m ≤ v ∧ m < v) ∨ (u < -m ∧ -m ≤ v ∧ v ≤ m) ∨ (-m ≤ u ∧ m < u ∧ v < -m) ∨ (-m ≤ u ∧ m < u ∧ -m ≤ v ∧ m < v) ∨ (-m ≤ u ∧ m < u ∧ -m ≤ v ∧ v ≤ m) ∨
    (-m ≤ u ∧ u ≤ m ∧ v < -m) ∨ (-m ≤ u ∧ u ≤ m ∧ -m ≤ v ∧ m < v) ∨ (-m ≤ u ∧ u ≤ m ∧ -m ≤ v ∧ v ≤ m) := by omega
set_option maxHeartbeats 2000000 in
theorem Moving_c (x y u v s : Int) (w : World) : Calls Try.prog 57 #[.agg #[.int .i64 x, .int .i64 y, .int .i64 u, .int .i64 v, .int .i64 s]] w fun e w' => e = .returned (.bool (mvOk x y u v s)) ∧ Below w.heap.size w w' := by
  rcases @eleven u v 65536000 with ⟨h, h1⟩ | ⟨h, h1, h2⟩ | ⟨h, h1, h2⟩ | ⟨h, h1, h2⟩ | ⟨h, h1, h2, h3⟩ | ⟨h, h1, h2, h3⟩ | ⟨h, h1, h2⟩ | ⟨h, h1, h2, h3⟩ | ⟨h, h1, h2, h3⟩
  case inr.inr.inr.inr.inr.inr.inr.inr =>
    cases e2 : sqB x y 6553600000
    all_goals
      go_enter Try.func57, Try.ntmps57
      go_wp2_with (first | (go_at_call 68; refine (Spot_c _ _ _).mono ?_; rintro e w' ⟨rfl, zb⟩; obtain ⟨zc, zf⟩ := bcell zb; have zz := zb.size; (try simp at zz); (try have zq := fun b (h : b < w.heap.size) => (by omega : b < w'.heap.size)); (try have zq0 : w.heap.size < w'.heap.size := by omega); (try have zq1 : w.heap.size + 1 < w'.heap.size := by omega); (try have zq2 : w.heap.size + 2 < w'.heap.size := by omega); (try have zr0 : wr.heap.size < w'.heap.size := by omega); (try have zr1 : wr.heap.size + 1 < w'.heap.size := by omega)) | (go_at_call 67; refine (ref04_in_c _ _ _ _).mono ?_; rintro e w' ⟨rfl, rfl⟩))
      go_ret
      exact ⟨ret_bool (by simp [mvOk, e2] <;> (simp [sqB, inR]; omega)), (by repeat (with_reducible first | exact Below.refl _ _ | assumption | refine Below.al ?_ _ | refine Below.dr ?_ | refine Below.drn ?_ _ | refine Below.sc ?_ (by simp <;> omega) _ | refine Below.th ?_ (by assumption)))⟩
  all_goals
    go_enter Try.func57, Try.ntmps57
    go_wp2
    go_ret
    exact ⟨ret_bool (by simp [mvOk] <;> (simp [sqB, inR]; omega)), (by repeat (with_reducible first | exact Below.refl _ _ | assumption | refine Below.al ?_ _ | refine Below.dr ?_ | refine Below.drn ?_ _ | refine Below.sc ?_ (by simp <;> omega) _ | refine Below.th ?_ (by assumption)))⟩
theorem RefBody_c (t n x y u v s : Int) (o : Bool) (w : World) : Calls Try.prog 32 #[.agg #[.int .i64 t, .int .i64 n, .int .i64 x, .int .i64 y, .int .i64 u, .int .i64 v, .int .i64 s, .bool o]] w fun e w' => e = .returned (.bool (bodyOk t n x y u v s)) ∧ Below w.heap.size w w' := by
  cases e1 : inR t 0 1
  · go_enter Try.func32, Try.ntmps32
    go_wp2_with (first | (go_at_call 57; refine (Moving_c _ _ _ _ _ _).mono ?_; rintro e w' ⟨rfl, zb⟩; obtain ⟨zc, zf⟩ := bcell zb; have zz := zb.size; (try simp at zz); (try have zq := fun b (h : b < w.heap.size) => (by omega : b < w'.heap.size)); (try have zq0 : w.heap.size < w'.heap.size := by omega); (try have zq1 : w.heap.size + 1 < w'.heap.size := by omega); (try have zq2 : w.heap.size + 2 < w'.heap.size := by omega); (try have zr0 : wr.heap.size < w'.heap.size := by omega); (try have zr1 : wr.heap.size + 1 < w'.heap.size := by omega)) | (go_at_call 56; refine (ref05_in_c _ _ _ _).mono ?_; rintro e w' ⟨rfl, rfl⟩))
    go_ret
    exact ⟨ret_bool (by simp [bodyOk, e1]), (by repeat (with_reducible first | exact Below.refl _ _ | assumption | refine Below.al ?_ _ | refine Below.dr ?_ | refine Below.drn ?_ _ | refine Below.sc ?_ (by simp <;> omega) _ | refine Below.th ?_ (by assumption)))⟩
  cases e2 : inR n 0 7
  all_goals
    go_enter Try.func32, Try.ntmps32
    go_wp2_with (first | (go_at_call 57; refine (Moving_c _ _ _ _ _ _).mono ?_; rintro e w' ⟨rfl, zb⟩; obtain ⟨zc, zf⟩ := bcell zb; have zz := zb.size; (try simp at zz); (try have zq := fun b (h : b < w.heap.size) => (by omega : b < w'.heap.size)); (try have zq0 : w.heap.size < w'.heap.size := by omega); (try have zq1 : w.heap.size + 1 < w'.heap.size := by omega); (try have zq2 : w.heap.size + 2 < w'.heap.size := by omega); (try have zr0 : wr.heap.size < w'.heap.size := by omega); (try have zr1 : wr.heap.size + 1 < w'.heap.size := by omega)) | (go_at_call 56; refine (ref05_in_c _ _ _ _).mono ?_; rintro e w' ⟨rfl, rfl⟩))
    go_ret
    exact ⟨ret_bool (by simp [bodyOk, e1, e2]), (by repeat (with_reducible first | exact Below.refl _ _ | assumption | refine Below.al ?_ _ | refine Below.dr ?_ | refine Below.drn ?_ _ | refine Below.sc ?_ (by simp <;> omega) _ | refine Below.th ?_ (by assumption)))⟩
theorem RefRest_c (x y u v s : Int) (w : World) : Calls Try.prog 54 #[.agg #[.int .i64 x, .int .i64 y, .int .i64 u, .int .i64 v, .int .i64 s]] w fun e w' => e = .returned (.bool (restB u v)) ∧ Below w.heap.size w w' := by
  by_cases h : u = 0
  all_goals
    go_enter Try.func54, Try.ntmps54
    go_wp2
    go_ret
    exact ⟨ret_bool (by simp [restB, h, BEq.beq]), (by repeat (with_reducible first | exact Below.refl _ _ | assumption | refine Below.al ?_ _ | refine Below.dr ?_ | refine Below.drn ?_ _ | refine Below.sc ?_ (by simp <;> omega) _ | refine Below.th ?_ (by assumption)))⟩
theorem refbody_c (t n x y u v s : Int) (A : Option Addr) (k c : Nat) (p q : Int) (w : World) :
    Calls Try.prog 31 #[.agg #[.int .i64 t, .int .i64 n, .int .i64 x, .int .i64 y, .int .i64 u, .int .i64 v, .int .i64 s, .slice A k c, .int .i64 p, .int .i64 q]] w fun e w' => e = .returned (.agg #[.int .i64 t, .int .i64 n, .int .i64 x, .int .i64 y, .int .i64 u, .int .i64 v, .int .i64 s, .bool false]) ∧ Below w.heap.size w w' := by
  go_enter Try.func31, Try.ntmps31
  go_wp2
  refine bodyPost_ret (v := .agg #[.int .i64 t, .int .i64 n, .int .i64 x, .int .i64 y, .int .i64 u, .int .i64 v, .int .i64 s, .bool false]) (by simp [results, Try.results31, go_sem]) rfl ?_
  exact ⟨rfl, (by repeat (with_reducible first | exact Below.refl _ _ | assumption | refine Below.al ?_ _ | refine Below.dr ?_ | refine Below.drn ?_ _ | refine Below.sc ?_ (by simp <;> omega) _ | refine Below.th ?_ (by assumption)))⟩
theorem refcode_c (b : Bool) (w : World) : Calls Try.prog 37 #[.bool b] w fun e w' => e = .returned (.int .i64 (eArg b)) ∧ w = w' := by
  cases b
  all_goals
    go_enter Try.func37, Try.ntmps37
    go_wp2
    go_ret
    exact ⟨rfl, rfl⟩
set_option maxHeartbeats 8000000 in
set_option maxRecDepth 100000 in
theorem RefBrooms_c (A : Option Addr) (c : Nat) (l : List Brm) (w : World) (hr : Arr w A (brooms l)) (hl : l.length < 4294967296) :
    Calls Try.prog 53 #[.slice A l.length c] w fun e w' => e = .returned (.bool (broomsOk l)) ∧ Below w.heap.size w w' := by
  go_enter Try.func53, Try.ntmps53
  go_wp2
  go_loopw [3] (fun i wr => ∃ k : Nat, k ≤ l.length ∧ i = .int .i64 k ∧ Below w.heap.size w wr ∧ Hid (NoBefore Brm.bad l k)) (fun i _ => l.length - (intOf i).toNat)
  case atStart => exact ⟨0, Nat.zero_le _, rfl, (by repeat (with_reducible first | exact Below.refl _ _ | assumption | refine Below.al ?_ _ | refine Below.dr ?_ | refine Below.drn ?_ _ | refine Below.sc ?_ (by simp <;> omega) _ | refine Below.th ?_ (by assumption))), NoBefore.zero _ _⟩
  case round =>
    obtain ⟨k, hk, rfl, hB, HN⟩ := hrel
    by_cases hlt : k < l.length
    · obtain ⟨b, o, rfl, hb0, c0, c1, c2⟩ := (hr.below hB).brm hlt
      have hget := List.getElem_mem hlt
      have hsucc := HN.out.succ hlt
      generalize l[k] = br at *
      obtain ⟨F, T, G⟩ := br
      simp only at c0 c1 c2
      have K1 := Aside.mk (fun w => still_q (ref04_in_c F 0 T w))
      have K2 := Aside.mk (fun w => still_q (ref04_in_c G 0 1000 w))
      by_cases hb : (⟨F, T, G⟩ : Brm).bad = true
      · by_cases h3 : inR F 0 T = false ∨ (inR F 0 T = true ∧ 6000 < T) ∨ (inR F 0 T = true ∧ ¬ 6000 < T ∧ inR G 0 1000 = false)
        · rcases h3 with e1 | ⟨e1, e2⟩ | ⟨e1, e2, e3⟩
          all_goals
            rw [e1] at K1
            try rw [e3] at K2
            go_wp2
            go_quiet (first | (go_at_call_of 67 (Value.int .i64 F); exact Calls.quiet_of_same (K1.out _)) | (go_at_call_of 67 (Value.int .i64 G); exact Calls.quiet_of_same (K2.out _)))
            go_wp2
            go_ret
            exact ⟨ret_bool (by have : l.any Brm.bad = true := List.any_eq_true.2 ⟨_, hget, hb⟩; simp [broomsOk, this]), (by repeat (with_reducible first | exact Below.refl _ _ | assumption | refine Below.al ?_ _ | refine Below.dr ?_ | refine Below.drn ?_ _ | refine Below.sc ?_ (by simp <;> omega) _ | refine Below.th ?_ (by assumption)))⟩
        · exfalso
          simp only [Brm.bad, badBroom] at hb
          cases e1 : inR F 0 T <;> cases e2 : inR G 0 1000 <;> by_cases e3 : 6000 < T <;> simp [e1, e2, e3] at hb h3
      · have h3 : inR F 0 T = true ∧ ¬ 6000 < T ∧ inR G 0 1000 = true := by
          simp [Brm.bad, badBroom] at hb
          simp [hb]
        obtain ⟨e1, e2, e3⟩ := h3
        rw [e1] at K1
        rw [e3] at K2
        go_wp2
        go_quiet (first | (go_at_call_of 67 (Value.int .i64 F); exact Calls.quiet_of_same (K1.out _)) | (go_at_call_of 67 (Value.int .i64 G); exact Calls.quiet_of_same (K2.out _)))
        go_wp2
        go_roundw
        case rel => exact ⟨k + 1, by omega, by go_num, (by repeat (with_reducible first | exact Below.refl _ _ | assumption | refine Below.al ?_ _ | refine Below.dr ?_ | refine Below.drn ?_ _ | refine Below.sc ?_ (by simp <;> omega) _ | refine Below.th ?_ (by assumption))), hsucc (by simpa using hb)⟩
        case measure => simp [intOf]; omega
    · obtain rfl : k = l.length := by omega
      have h0 : l.any Brm.bad = false := by rw [← idx_any, idx_none _ _ HN.out]; rfl
      go_wp2
      go_ret
      exact ⟨ret_bool (by simp [broomsOk, h0]; omega), (by repeat (with_reducible first | exact Below.refl _ _ | assumption | refine Below.al ?_ _ | refine Below.dr ?_ | refine Below.drn ?_ _ | refine Below.sc ?_ (by simp <;> omega) _ | refine Below.th ?_ (by assumption)))⟩
end Go.Proofs.Ytknpkldmihhddaa
