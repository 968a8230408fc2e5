/- Chapter 11: contracts of skip.first, best. -/
import Derived.Test.YtjbgdpbeabakiaaKC
namespace Go.Proofs.Ytjbgdpbeabakiaa
open Go.RowKit Go.Shelf
set_option linter.unusedVariables false
set_option linter.unusedSimpArgs false
/-- is the first of two hopes the better one, for the team with the hammer? -/
def betH (h : Int) (a b : Int × Int) : Bool := if h = 0 then decide (b.1 < a.1) else decide (a.2 < b.2)
/-- the first one of the best among the first so many -/
def firstI (f : Int × Int → Int × Int → Bool) (l : List (Int × Int)) : Nat → Nat
  | 0 => 0
  | k + 1 => if f (l.getD k (0, 0)) (l.getD (firstI f l k) (0, 0)) then k else firstI f l k
theorem firstI_lt (f : Int × Int → Int × Int → Bool) (l : List (Int × Int)) (h1 : 1 ≤ l.length) : ∀ k, k ≤ l.length → firstI f l k < l.length
  | 0, _ => by simp [firstI]; omega
  | k + 1, h => by
    have := firstI_lt f l h1 k (by omega)
    simp only [firstI]; split <;> omega
theorem firstI_succ (f : Int × Int → Int × Int → Bool) (l : List (Int × Int)) (k : Nat) (hk : k < l.length) (hn : firstI f l k < l.length) : firstI f l (k + 1) = if f l[k] l[firstI f l k] then k else firstI f l k := by
  simp [firstI, hk, hn]
theorem best1_c (a b : Int × Int) (w : World) : Calls Try.prog 50 #[.agg #[.int .i64 a.1, .int .i64 a.2], .agg #[.int .i64 b.1, .int .i64 b.2]] w fun e w' => e = .returned (.bool (betH 0 a b)) ∧ Below w.heap.size w w' := by
  by_cases hp : b.1 < a.1
  all_goals
    go_enter Try.func50, Try.ntmps50
    go_wp2
    go_ret
    exact ⟨ret_bool (by simp [betH, hp]), (by repeat (with_reducible first | exact Below.refl _ _ | assumption | refine Below.al ?_ _ | refine Below.dr ?_ | refine Below.drn ?_ _ | refine Below.sc ?_ (by simp <;> omega) _ | refine Below.th ?_ (by assumption)))⟩
theorem best2_c (a b : Int × Int) (w : World) : Calls Try.prog 51 #[.agg #[.int .i64 a.1, .int .i64 a.2], .agg #[.int .i64 b.1, .int .i64 b.2]] w fun e w' => e = .returned (.bool (betH 1 a b)) ∧ Below w.heap.size w w' := by
  by_cases hp : a.2 < b.2
  all_goals
    go_enter Try.func51, Try.ntmps51
    go_wp2
    go_ret
    exact ⟨ret_bool (by simp [betH, hp]), (by repeat (with_reducible first | exact Below.refl _ _ | assumption | refine Below.al ?_ _ | refine Below.dr ?_ | refine Below.drn ?_ _ | refine Below.sc ?_ (by simp <;> omega) _ | refine Below.th ?_ (by assumption)))⟩
set_option maxRecDepth 100000 in
set_option maxHeartbeats 1000000 in
theorem first_c0 (A : Option Addr) (c : Nat) (l : List (Int × Int)) (w : World) (hr : Arr w A (hopes l)) (hl : l.length < 4294967296) (h1 : 1 ≤ l.length) :
    Calls Try.prog 49 #[.slice A l.length c, .func (.func 50) #[] #[]] w fun e w' => e = .returned (.int .i64 (firstI (betH 0) l l.length)) ∧ Below w.heap.size w w' := by
  go_enter Try.func49, Try.ntmps49
  go_wp2_with fail
  go_loopw [5, 10] (fun n i wr => ∃ k : Nat, k ≤ l.length ∧ i = .int .i64 k ∧ n = .int .i64 (firstI (betH 0) l k) ∧ Below w.heap.size w wr) (fun _ i _ => l.length - (intOf i).toNat)
  case atStart => exact ⟨0, by omega, rfl, rfl, Below.refl _ _⟩
  case round =>
    obtain ⟨k, hk, rfl, rfl, hB⟩ := hrel
    by_cases hlt : k < l.length
    · have hfl := firstI_lt (betH 0) l h1 k (by omega)
      have HS := Lib.hid (firstI_succ (betH 0) l k hlt hfl)
      obtain ⟨b, o, hA, hb, hcx, hcy⟩ := hopes_at (hr.below hB) hlt
      obtain ⟨b', o', hA', hb', hdx, hdy⟩ := hopes_at (hr.below hB) hfl
      obtain ⟨rfl, rfl⟩ : b = b' ∧ o = o' := by rw [hA] at hA'; simpa using hA'
      subst hA
      clear hA'
      generalize firstI (betH 0) l k = n at *
      generalize l[k] = x at *
      generalize l[n] = y at *
      have hws : wr.heap.size = wr.heap.size := rfl
      cases hbt : betH 0 x y
      all_goals
        have K := Aside.mk (fun w => best1_c x y w)
        rw [hbt] at K
        rw [hbt] at HS
        clear hbt
        go_wp2_with fail
        refine wp_region_tail 6 (by kernel_rfl) (by kernel_rfl) ?_
        simp only [List.take_succ_cons, List.take_zero, List.drop_succ_cons, List.drop_zero]
        iterate 6 still_step
        refine wpStill_nil ?_
        go_wp2_with fail
        refine (K.out _).mono ?_
        rintro e w' ⟨rfl, zb⟩
        have hB2 := Below.th (Below.dr (Below.al hB (.cells #[.int .i64 x.1, .int .i64 x.2] 43))) zb
        clear K
        go_wp2
        go_roundw
        case rel => exact ⟨k + 1, by omega, by go_num, by rw [HS.out]; rfl, hB2⟩
        case measure => simp [intOf]; omega
    · obtain rfl : k = l.length := by omega
      go_wp2
      go_ret
      exact ⟨ret_int rfl, hB⟩
set_option maxRecDepth 100000 in
set_option maxHeartbeats 1000000 in
theorem first_c1 (A : Option Addr) (c : Nat) (l : List (Int × Int)) (w : World) (hr : Arr w A (hopes l)) (hl : l.length < 4294967296) (h1 : 1 ≤ l.length) :
    Calls Try.prog 49 #[.slice A l.length c, .func (.func 51) #[] #[]] w fun e w' => e = .returned (.int .i64 (firstI (betH 1) l l.length)) ∧ Below w.heap.size w w' := by
  go_enter Try.func49, Try.ntmps49
  go_wp2_with fail
  go_loopw [5, 10] (fun n i wr => ∃ k : Nat, k ≤ l.length ∧ i = .int .i64 k ∧ n = .int .i64 (firstI (betH 1) l k) ∧ Below w.heap.size w wr) (fun _ i _ => l.length - (intOf i).toNat)
  case atStart => exact ⟨0, by omega, rfl, rfl, Below.refl _ _⟩
  case round =>
    obtain ⟨k, hk, rfl, rfl, hB⟩ := hrel
    by_cases hlt : k < l.length
    · have hfl := firstI_lt (betH 1) l h1 k (by omega)
      have HS := Lib.hid (firstI_succ (betH 1) l k hlt hfl)
      obtain ⟨b, o, hA, hb, hcx, hcy⟩ := hopes_at (hr.below hB) hlt
      obtain ⟨b', o', hA', hb', hdx, hdy⟩ := hopes_at (hr.below hB) hfl
      obtain ⟨rfl, rfl⟩ : b = b' ∧ o = o' := by rw [hA] at hA'; simpa using hA'
      subst hA
      clear hA'
      generalize firstI (betH 1) l k = n at *
      generalize l[k] = x at *
      generalize l[n] = y at *
      have hws : wr.heap.size = wr.heap.size := rfl
      cases hbt : betH 1 x y
      all_goals
        have K := Aside.mk (fun w => best2_c x y w)
        rw [hbt] at K
        rw [hbt] at HS
        clear hbt
        go_wp2_with fail
        refine wp_region_tail 6 (by kernel_rfl) (by kernel_rfl) ?_
        simp only [List.take_succ_cons, List.take_zero, List.drop_succ_cons, List.drop_zero]
        iterate 6 still_step
        refine wpStill_nil ?_
        go_wp2_with fail
        refine (K.out _).mono ?_
        rintro e w' ⟨rfl, zb⟩
        have hB2 := Below.th (Below.dr (Below.al hB (.cells #[.int .i64 x.1, .int .i64 x.2] 43))) zb
        clear K
        go_wp2
        go_roundw
        case rel => exact ⟨k + 1, by omega, by go_num, by rw [HS.out]; rfl, hB2⟩
        case measure => simp [intOf]; omega
    · obtain rfl : k = l.length := by omega
      go_wp2
      go_ret
      exact ⟨ret_int rfl, hB⟩
theorem best_c (A : Option Addr) (c : Nat) (l : List (Int × Int)) (h : Int) (w : World) (hr : Arr w A (hopes l)) (hl : l.length < 4294967296) (h1 : 1 ≤ l.length) (hh : h = 0 ∨ h = 1) :
    Calls Try.prog 37 #[.slice A l.length c, .int .i64 h] w fun e w' => e = .returned (.int .i64 (firstI (betH h) l l.length)) ∧ Below w.heap.size w w' := by
  rcases hh with rfl | rfl
  · have K := Aside.mk (fun w hr => first_c0 A c l w hr hl h1)
    go_enter Try.func37, Try.ntmps37
    go_wp2_with fail
    refine (K.out _ hr).mono ?_
    rintro e w' ⟨rfl, zb⟩
    go_wp2
    go_ret
    exact ⟨ret_int rfl, zb⟩
  · have K := Aside.mk (fun w hr => first_c1 A c l w hr hl h1)
    go_enter Try.func37, Try.ntmps37
    go_wp2_with fail
    refine (K.out _ hr).mono ?_
    rintro e w' ⟨rfl, zb⟩
    go_wp2
    go_ret
    exact ⟨ret_int rfl, zb⟩
end Go.Proofs.Ytjbgdpbeabakiaa
