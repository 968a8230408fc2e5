/- The law SkillBetween: its function answers true. -/
import Derived.Test.YtknpkldmihhddaaL5
namespace Go.Proofs.Ytknpkldmihhddaa
open Go.RowKit Go.Shelf
set_option linter.unusedVariables false
set_option linter.unusedSimpArgs false
set_option maxHeartbeats 1000000 in
set_option maxRecDepth 100000 in
theorem SkillBetween_long (A0 A1 A2 A4 : Option Addr) (N0 N1 N2 N4 c0 c1 c2 c4 : Nat) (ti : Int) (w : World) (t0 : 0 ≤ ti) (t1 : ti ≤ 255) (h : 60 < N0 ∨ 60 < N1 ∨ 60 < N2 ∨ 200 < N4) :
    Calls Try.prog 4 #[.slice A0 N0 c0, .slice A1 N1 c1, .slice A2 N2 c2, .int .u8 ti, .slice A4 N4 c4] w fun e w' => e = .returned (.bool true) ∧ Below w.heap.size w w' := by
  have KO := Aside.mk (fun w => odd_c _ 2 [(A0, N0, c0), (A1, N1, c1)] _ (Arr.lens w [(A0, N0, c0), (A1, N1, c1)] 41) (by simp))
  have hcase : ([(A0, N0, c0), (A1, N1, c1)] : List (Option Addr × Nat × Nat)).any long = true ∨ (([(A0, N0, c0), (A1, N1, c1)] : List (Option Addr × Nat × Nat)).any long = false ∧ 60 < N2) ∨ (([(A0, N0, c0), (A1, N1, c1)] : List (Option Addr × Nat × Nat)).any long = false ∧ ¬ 60 < N2 ∧ 200 < N4) := by
    cases ho : ([(A0, N0, c0), (A1, N1, c1)] : List (Option Addr × Nat × Nat)).any long
    · simp [long] at ho; simp; omega
    · simp
  clear h
  rcases hcase with h | ⟨h, h'⟩ | ⟨h, h', h''⟩
  all_goals
    rw [h] at KO
    simp only [List.map_cons, List.map_nil, sl3, List.length_cons, List.length_nil] at KO
    clear h
    go_enter Try.func4, Try.ntmps4
    go_wp2_with fail
    refine (alive_c _).mono ?_
    rintro e w' ⟨rfl, zb⟩
    go_wp2_with fail
    refine (KO.out _).mono ?_
    rintro e w'' ⟨rfl, rfl⟩
    go_wp2
    go_ret
    exact ⟨rfl, (by repeat (with_reducible first | exact Below.refl _ _ | assumption | refine Below.al ?_ _ | refine Below.dr ?_ | refine Below.drn ?_ _ | refine Below.sc ?_ (by simp <;> omega) _ | refine Below.th ?_ (by assumption)))⟩
theorem chance_none {l s : List Int} {d : Int} (h : chanceOk l s d = false) : chanceV l s d = .tuple #[.agg #[.int .i64 0, .int .i64 0], .agg #[.int .i64 0, .int .i64 0], .int .i64 2] := by simp [chanceV, h]
theorem chance_some {l s : List Int} {d : Int} (h : chanceOk l s d = true) : chanceV l s d = .tuple #[.agg #[.int .i64 (lowC l s d), .int .i64 (sumI l + d)], .agg #[.int .i64 (highC l s d), .int .i64 (sumI l + d)], .int .i64 0] := by simp [chanceV, h]
def bools (l : List Bool) : List Value := l.map Value.bool
theorem bools_set (l : List Bool) (i : Nat) (x : Bool) : (bools l).set i (.bool x) = bools (l.set i x) := by simp [bools, List.map_set]
theorem made_bools (n : Nat) : (madeCells (Value.bool false).cells (n * 1)).toList = bools (List.replicate n false) := by
  apply List.ext_getElem
  · simp [madeCells, bools]
  · intro i h1 h2
    simp [madeCells, bools, Value.cells, Nat.mod_one]
theorem Try.infoB : (Try.prog.info? 4).map (fun i => (i.zero, i.size, i.bytes)) = some (some (.bool false), 1, 1) := by kernel_rfl
theorem pick_bd (l : List Int) (m : List Bool) (M : Int) (h : ∀ i, (hi : i < l.length) → 0 ≤ l[i] ∧ l[i] ≤ M) (hM : 0 ≤ M) : ∀ k, k ≤ l.length → k ≤ m.length → 0 ≤ pick (l.take k) (m.take k) ∧ pick (l.take k) (m.take k) ≤ M * k
  | 0, _, _ => by simp [pick]
  | k + 1, hk, hm => by
    have ih := pick_bd l m M h hM k (by omega) (by omega)
    have a := h k (by omega)
    rw [pick_snoc l m k (by omega) (by omega), Int.natCast_succ, Int.mul_add]
    split <;> omega
theorem sum_bd (l : List Int) (M : Int) (h : ∀ i, (hi : i < l.length) → 0 ≤ l[i] ∧ l[i] ≤ M) : ∀ k, k ≤ l.length → 0 ≤ sumI (l.take k) ∧ sumI (l.take k) ≤ M * k
  | 0, _ => by simp [sumI]
  | k + 1, hk => by
    have ih := sum_bd l M h k (by omega)
    have a := h k (by omega)
    rw [sumI_snoc l k (by omega), Int.natCast_succ, Int.mul_add]
    omega
theorem mul_bd2 {a b : Int} (h0 : 0 ≤ a) (h1 : a ≤ 1000100) (h2 : -68719476736 ≤ b) (h3 : b ≤ 68719476736) : -68726348683673600 ≤ a * b ∧ a * b ≤ 68726348683673600 := by
  have p := Int.mul_le_mul_of_nonneg_left h3 h0
  have q := Int.mul_le_mul_of_nonneg_left h2 h0
  constructor <;> omega
theorem dot_bd2 (l m : List Int) (h : ∀ i, (hi : i < l.length) → 0 ≤ l[i] ∧ l[i] ≤ 1000100) (hv : Vals m) : ∀ k, k ≤ l.length → k ≤ m.length → -68726348683673600 * k ≤ dotI (l.take k) (m.take k) ∧ dotI (l.take k) (m.take k) ≤ 68726348683673600 * k
  | 0, _, _ => by simp [dotI]
  | k + 1, hk, hm => by
    have ih := dot_bd2 l m h hv k (by omega) (by omega)
    have a := h k (by omega)
    have b := hv k (by omega)
    have p := mul_bd2 a.1 a.2 b.1 b.2
    rw [dotI_snoc l m k (by omega) (by omega)]; omega
end Go.Proofs.Ytknpkldmihhddaa
