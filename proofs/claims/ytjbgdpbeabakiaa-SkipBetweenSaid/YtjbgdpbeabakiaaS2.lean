/- Contracts of skill: sum, the least and the greatest of values, the bounds of a mean. -/
import Derived.Test.YtjbgdpbeabakiaaS1
namespace Go.Proofs.Ytjbgdpbeabakiaa
open Go.RowKit Go.Shelf
set_option linter.unusedVariables false
set_option linter.unusedSimpArgs false

def sumI (l : List Int) : Int := l.foldl (· + ·) 0
theorem foldl_snoc {α β : Type} (f : β → α → β) (z : β) (l : List α) (k : Nat) (hk : k < l.length) : (l.take (k + 1)).foldl f z = f ((l.take k).foldl f z) l[k] := by
  rw [List.take_succ_eq_append_getElem hk, List.foldl_append]; rfl
theorem sumI_snoc (l : List Int) (k : Nat) (hk : k < l.length) : sumI (l.take (k + 1)) = sumI (l.take k) + l[k] := foldl_snoc _ _ _ _ hk
def Counts (l : List Int) : Prop := ∀ i, (h : i < l.length) → 0 ≤ l[i] ∧ l[i] ≤ 1000000
theorem sumI_bd (l : List Int) (h : Counts l) : ∀ k, k ≤ l.length → 0 ≤ sumI (l.take k) ∧ sumI (l.take k) ≤ 1000000 * k
  | 0, _ => by simp [sumI]
  | k + 1, hk => by
    have ih := sumI_bd l h k (by omega)
    have := h k (by omega)
    rw [sumI_snoc l k (by omega)]; omega
theorem sum_c (A : Option Addr) (c : Nat) (l : List Int) (w : World) (hr : Arr w A (ints l)) (hl : l.length ≤ 1000) (hc : Counts l) :
    Calls Try.prog 72 #[.slice A l.length c] w fun e w' => e = .returned (.int .i64 (sumI l)) ∧ w = w' := by
  go_enter Try.func72, Try.ntmps72
  go_wp2
  go_loop [3, 8] (fun s i => ∃ k : Nat, k ≤ l.length ∧ i = .int .i64 k ∧ s = .int .i64 (sumI (l.take k))) (fun _ i => l.length - (intOf i).toNat)
  case atStart => exact ⟨0, Nat.zero_le _, rfl, by simp [sumI]⟩
  case round =>
    obtain ⟨k, hk, rfl, rfl⟩ := hrel
    have hb := sumI_bd l hc k hk
    by_cases hlt : k < l.length
    · obtain ⟨b, o, rfl, hb0, hcell⟩ := hr.int_at hlt
      have hk2 := hc k hlt
      have HS := Lib.hid (sumI_snoc l k hlt)
      go_wp2
      go_round
      case rel => exact ⟨k + 1, by omega, by go_num, by rw [HS.out]⟩
      case measure => simp [intOf]; omega
    · obtain rfl : k = l.length := by omega
      go_wp2
      go_ret
      exact ⟨ret_int (by simp), rfl⟩
def minF (m x : Int) : Int := if x < m then x else m
def maxF (m x : Int) : Int := if m < x then x else m
def minI (l : List Int) : Int := match l with | [] => 0 | x :: t => t.foldl minF x
def maxI (l : List Int) : Int := match l with | [] => 0 | x :: t => t.foldl maxF x
theorem minI_snoc (l : List Int) (k : Nat) (hk : k < l.length) (h1 : 1 ≤ k) : minI (l.take (k + 1)) = minF (minI (l.take k)) l[k] := by
  cases l with
  | nil => simp at hk
  | cons x t =>
    obtain ⟨j, rfl⟩ : ∃ j, k = j + 1 := ⟨k - 1, by omega⟩
    simp only [List.take_succ_cons, minI]
    rw [foldl_snoc _ _ _ j (by simpa using hk)]; rfl
theorem maxI_snoc (l : List Int) (k : Nat) (hk : k < l.length) (h1 : 1 ≤ k) : maxI (l.take (k + 1)) = maxF (maxI (l.take k)) l[k] := by
  cases l with
  | nil => simp at hk
  | cons x t =>
    obtain ⟨j, rfl⟩ : ∃ j, k = j + 1 := ⟨k - 1, by omega⟩
    simp only [List.take_succ_cons, maxI]
    rw [foldl_snoc _ _ _ j (by simpa using hk)]; rfl
theorem Min_c (A : Option Addr) (c : Nat) (l : List Int) (w : World) (hr : Arr w A (ints l)) (hl : l.length ≤ 1000) (hpos : 1 ≤ l.length) :
    Calls Try.prog 67 #[.slice A l.length c] w fun e w' => e = .returned (.int .i64 (minI l)) ∧ w = w' := by
  obtain ⟨b, o, rfl, hb0, hcell0⟩ := hr.int_at (i := 0) (by omega)
  rw [Nat.add_zero] at hcell0
  have e1 : decide ((l.length : Int) < 1) = false := by simp; omega
  go_enter Try.func67, Try.ntmps67
  go_wp2
  go_loop [3, 4] (fun s i => ∃ k : Nat, 1 ≤ k ∧ k ≤ l.length ∧ i = .int .i64 k ∧ s = .int .i64 (minI (l.take k))) (fun _ i => l.length - (intOf i).toNat)
  case atStart => exact ⟨1, by omega, by omega, rfl, by cases l with | nil => simp at hpos | cons x t => simp [minI]⟩
  case round =>
    obtain ⟨k, h1, hk, rfl, rfl⟩ := hrel
    by_cases hlt : k < l.length
    · obtain ⟨b', o', hA, hb0', hcell⟩ := hr.int_at hlt
      obtain ⟨rfl, rfl⟩ : b = b' ∧ o = o' := by simpa using hA
      have HS := Lib.hid (minI_snoc l k hlt h1)
      go_wp2
      go_round
      case rel => exact ⟨k + 1, by omega, by omega, by go_num, by rw [HS.out]; rfl⟩
      case measure => simp [intOf]; omega
    · obtain rfl : k = l.length := by omega
      go_wp2
      go_ret
      exact ⟨ret_int (by simp), rfl⟩
theorem Max_c (A : Option Addr) (c : Nat) (l : List Int) (w : World) (hr : Arr w A (ints l)) (hl : l.length ≤ 1000) (hpos : 1 ≤ l.length) :
    Calls Try.prog 68 #[.slice A l.length c] w fun e w' => e = .returned (.int .i64 (maxI l)) ∧ w = w' := by
  obtain ⟨b, o, rfl, hb0, hcell0⟩ := hr.int_at (i := 0) (by omega)
  rw [Nat.add_zero] at hcell0
  have e1 : decide ((l.length : Int) < 1) = false := by simp; omega
  go_enter Try.func68, Try.ntmps68
  go_wp2
  go_loop [3, 4] (fun s i => ∃ k : Nat, 1 ≤ k ∧ k ≤ l.length ∧ i = .int .i64 k ∧ s = .int .i64 (maxI (l.take k))) (fun _ i => l.length - (intOf i).toNat)
  case atStart => exact ⟨1, by omega, by omega, rfl, by cases l with | nil => simp at hpos | cons x t => simp [maxI]⟩
  case round =>
    obtain ⟨k, h1, hk, rfl, rfl⟩ := hrel
    by_cases hlt : k < l.length
    · obtain ⟨b', o', hA, hb0', hcell⟩ := hr.int_at hlt
      obtain ⟨rfl, rfl⟩ : b = b' ∧ o = o' := by simpa using hA
      have HS := Lib.hid (maxI_snoc l k hlt h1)
      go_wp2
      go_round
      case rel => exact ⟨k + 1, by omega, by omega, by go_num, by rw [HS.out]; rfl⟩
      case measure => simp [intOf]; omega
    · obtain rfl : k = l.length := by omega
      go_wp2
      go_ret
      exact ⟨ret_int (by simp), rfl⟩

def dotI : List Int → List Int → Int
  | a :: l, b :: m => a * b + dotI l m
  | _, _ => 0
theorem dotI_snoc : ∀ (l m : List Int) (k : Nat) (hk : k < l.length) (hm : k < m.length), dotI (l.take (k + 1)) (m.take (k + 1)) = dotI (l.take k) (m.take k) + l[k] * m[k]
  | [], _, k, hk, _ => by simp at hk
  | _ :: _, [], k, _, hm => by simp at hm
  | a :: l, b :: m, 0, _, _ => by simp [dotI]
  | a :: l, b :: m, k + 1, hk, hm => by
    have ih := dotI_snoc l m k (by simpa using hk) (by simpa using hm)
    simp only [List.take_succ_cons, dotI, List.getElem_cons_succ] at *
    omega
def partI (z : Int) (l m : List Int) (k : Nat) : Int := z + dotI (l.take k) (m.take k)
def Vals (l : List Int) : Prop := ∀ i, (h : i < l.length) → -68719476736 ≤ l[i] ∧ l[i] ≤ 68719476736
theorem mul_bd {a b : Int} (h0 : 0 ≤ a) (h1 : a ≤ 1000000) (h2 : -68719476736 ≤ b) (h3 : b ≤ 68719476736) : -68719476736000000 ≤ a * b ∧ a * b ≤ 68719476736000000 := by
  have p := Int.mul_le_mul_of_nonneg_left h3 h0
  have q := Int.mul_le_mul_of_nonneg_left h2 h0
  constructor <;> omega
theorem dotI_bd (l m : List Int) (h : Counts l) (hv : Vals m) : ∀ k, k ≤ l.length → k ≤ m.length → -68719476736000000 * k ≤ dotI (l.take k) (m.take k) ∧ dotI (l.take k) (m.take k) ≤ 68719476736000000 * k
  | 0, _, _ => by simp [dotI]
  | k + 1, hk, hm => by
    have ih := dotI_bd l m h hv k (by omega) (by omega)
    have a := h k (by omega)
    have b := hv k (by omega)
    have p := mul_bd a.1 a.2 b.1 b.2
    rw [dotI_snoc l m k (by omega) (by omega)]; omega
theorem minI_mem (l : List Int) (h : 1 ≤ l.length) (lo hi : Int) (hv : ∀ i, (h : i < l.length) → lo ≤ l[i] ∧ l[i] ≤ hi) : lo ≤ minI l ∧ minI l ≤ hi := by
  have key : ∀ k, 1 ≤ k → k ≤ l.length → lo ≤ minI (l.take k) ∧ minI (l.take k) ≤ hi := by
    intro k
    induction k with
    | zero => omega
    | succ k ih =>
      intro _ hk
      have a := hv k (by omega)
      by_cases h1 : 1 ≤ k
      · have := ih h1 (by omega)
        rw [minI_snoc l k (by omega) h1]; unfold minF; split <;> omega
      · obtain rfl : k = 0 := by omega
        cases l with
        | nil => simp at h
        | cons x t => simpa [minI] using a
  have := key l.length h (Nat.le_refl _)
  rwa [List.take_length] at this
theorem maxI_mem (l : List Int) (h : 1 ≤ l.length) (lo hi : Int) (hv : ∀ i, (h : i < l.length) → lo ≤ l[i] ∧ l[i] ≤ hi) : lo ≤ maxI l ∧ maxI l ≤ hi := by
  have key : ∀ k, 1 ≤ k → k ≤ l.length → lo ≤ maxI (l.take k) ∧ maxI (l.take k) ≤ hi := by
    intro k
    induction k with
    | zero => omega
    | succ k ih =>
      intro _ hk
      have a := hv k (by omega)
      by_cases h1 : 1 ≤ k
      · have := ih h1 (by omega)
        rw [maxI_snoc l k (by omega) h1]; unfold maxF; split <;> omega
      · obtain rfl : k = 0 := by omega
        cases l with
        | nil => simp at h
        | cons x t => simpa [maxI] using a
  have := key l.length h (Nat.le_refl _)
  rwa [List.take_length] at this
set_option maxHeartbeats 400000 in
theorem mean_Min (A B : Option Addr) (c c' : Nat) (l m : List Int) (d : Int) (w : World) (hr : Arr w A (ints l)) (hs : Arr w B (ints m)) (hc : Counts l) (hv : Vals m) (hlen : m.length = l.length) (hpos : 1 ≤ l.length) (h49 : l.length ≤ 49)
    (hd : 1 ≤ d) (hd2 : d ≤ 1000) :
    Calls Try.prog 66 #[.slice A l.length c, .slice B m.length c', .int .i64 d, .func (.func 67) #[] #[], .int .i64 1] w fun e w' => e = .returned (.int .i64 (shr (d * minI m + dotI l m) (sumI l + d) 1)) ∧ Below w.heap.size w w' := by
  obtain ⟨v1, v2⟩ := minI_mem m (by omega) _ _ hv
  obtain ⟨p1, p2⟩ := mul_bd (a := d) (by omega) (by omega) v1 v2
  have HD := Aside.mk (dotI_bd l m hc hv)
  have HDS := Aside.mk (dotI_snoc l m)
  have HSUM := sumI_bd l hc l.length (Nat.le_refl _)
  rw [List.take_length] at HSUM
  obtain ⟨s1, s2⟩ := HSUM
  have HV := Aside.mk hv
  have HC := Aside.mk hc
  have HLEN := Lib.hid hlen
  clear hv hc hlen
  go_enter Try.func66, Try.ntmps66
  go_wp2_with (go_at_call 67; refine (Min_c _ _ _ _ hs (by have := HLEN.out; omega) (by have := HLEN.out; omega)).mono ?_; rintro e w' ⟨rfl, rfl⟩)
  go_loop [11, 12, 13, 23] (fun t x y i => ∃ k : Nat, k ≤ l.length ∧ i = .int .i64 k ∧ t = .int .i64 (partI (d * minI m) l m k)) (fun _ _ _ i => l.length - (intOf i).toNat)
  case atStart => exact ⟨0, Nat.zero_le _, rfl, by simp [partI, dotI]⟩
  case round =>
    obtain ⟨k, hk, rfl, rfl⟩ := hrel
    have hb : -71000000000000000 * 49 ≤ partI (d * minI m) l m k ∧ partI (d * minI m) l m k ≤ 71000000000000000 * 49 := by
      have h1 := HD.out k hk (by have := HLEN.out; omega)
      unfold partI; omega
    by_cases hlt : k < l.length
    · have hlt' : k < m.length := by have := HLEN.out; omega
      obtain ⟨b, o, rfl, hb0, hcell⟩ := hr.int_at hlt
      obtain ⟨b', o', rfl, hb0', hcell'⟩ := hs.int_at hlt'
      have hk2 := HC.out k hlt
      have hk3 := HV.out k hlt'
      obtain ⟨q1, q2⟩ := mul_bd hk2.1 hk2.2 hk3.1 hk3.2
      have HS : Hid (partI (d * minI m) l m (k + 1) = partI (d * minI m) l m k + l[k] * m[k]) := by
        show _ = _
        have := HDS.out k hlt hlt'
        unfold partI; omega
      go_wp2
      go_round
      case rel => exact ⟨k + 1, by omega, by go_num, by rw [HS.out]⟩
      case measure => simp [intOf]; omega
    · obtain rfl : k = l.length := by omega
      go_wp2_with (first | (go_at_call 72; refine (sum_c _ _ _ _ hr (by omega) HC.out).mono ?_; rintro e w' ⟨rfl, rfl⟩) | (go_at_call 71; refine (share_c _ _ _ (by omega) (by omega) (by omega) (by omega) (by omega) _).mono ?_; rintro e w' ⟨rfl, zb⟩; obtain ⟨zc, zf⟩ := bcell zb; have zz := zb.size; (try simp at zz); (try have zq := fun b (h : b < w.heap.size) => (by omega : b < w'.heap.size)); (try have zq0 : w.heap.size < w'.heap.size := by omega); (try have zq1 : w.heap.size + 1 < w'.heap.size := by omega); (try have zq2 : w.heap.size + 2 < w'.heap.size := by omega); (try have zr0 : wr.heap.size < w'.heap.size := by omega); (try have zr1 : wr.heap.size + 1 < w'.heap.size := by omega)))
      go_ret
      refine ⟨ret_int ?_, (by repeat (with_reducible first | exact Below.refl _ _ | assumption | refine Below.al ?_ _ | refine Below.dr ?_ | refine Below.drn ?_ _ | refine Below.sc ?_ (by simp <;> omega) _ | refine Below.th ?_ (by assumption)))⟩
      have e : partI (d * minI m) l m l.length = d * minI m + dotI l m := by
        unfold partI; rw [List.take_length, show m.take l.length = m from by rw [← HLEN.out, List.take_length]]
      rw [e]
set_option maxHeartbeats 400000 in
theorem mean_Max (A B : Option Addr) (c c' : Nat) (l m : List Int) (d : Int) (w : World) (hr : Arr w A (ints l)) (hs : Arr w B (ints m)) (hc : Counts l) (hv : Vals m) (hlen : m.length = l.length) (hpos : 1 ≤ l.length) (h49 : l.length ≤ 49)
    (hd : 1 ≤ d) (hd2 : d ≤ 1000) :
    Calls Try.prog 66 #[.slice A l.length c, .slice B m.length c', .int .i64 d, .func (.func 68) #[] #[], .int .i64 2] w fun e w' => e = .returned (.int .i64 (shr (d * maxI m + dotI l m) (sumI l + d) 2)) ∧ Below w.heap.size w w' := by
  obtain ⟨v1, v2⟩ := maxI_mem m (by omega) _ _ hv
  obtain ⟨p1, p2⟩ := mul_bd (a := d) (by omega) (by omega) v1 v2
  have HD := Aside.mk (dotI_bd l m hc hv)
  have HDS := Aside.mk (dotI_snoc l m)
  have HSUM := sumI_bd l hc l.length (Nat.le_refl _)
  rw [List.take_length] at HSUM
  obtain ⟨s1, s2⟩ := HSUM
  have HV := Aside.mk hv
  have HC := Aside.mk hc
  have HLEN := Lib.hid hlen
  clear hv hc hlen
  go_enter Try.func66, Try.ntmps66
  go_wp2_with (go_at_call 68; refine (Max_c _ _ _ _ hs (by have := HLEN.out; omega) (by have := HLEN.out; omega)).mono ?_; rintro e w' ⟨rfl, rfl⟩)
  go_loop [11, 12, 13, 23] (fun t x y i => ∃ k : Nat, k ≤ l.length ∧ i = .int .i64 k ∧ t = .int .i64 (partI (d * maxI m) l m k)) (fun _ _ _ i => l.length - (intOf i).toNat)
  case atStart => exact ⟨0, Nat.zero_le _, rfl, by simp [partI, dotI]⟩
  case round =>
    obtain ⟨k, hk, rfl, rfl⟩ := hrel
    have hb : -71000000000000000 * 49 ≤ partI (d * maxI m) l m k ∧ partI (d * maxI m) l m k ≤ 71000000000000000 * 49 := by
      have h1 := HD.out k hk (by have := HLEN.out; omega)
      unfold partI; omega
    by_cases hlt : k < l.length
    · have hlt' : k < m.length := by have := HLEN.out; omega
      obtain ⟨b, o, rfl, hb0, hcell⟩ := hr.int_at hlt
      obtain ⟨b', o', rfl, hb0', hcell'⟩ := hs.int_at hlt'
      have hk2 := HC.out k hlt
      have hk3 := HV.out k hlt'
      obtain ⟨q1, q2⟩ := mul_bd hk2.1 hk2.2 hk3.1 hk3.2
      have HS : Hid (partI (d * maxI m) l m (k + 1) = partI (d * maxI m) l m k + l[k] * m[k]) := by
        show _ = _
        have := HDS.out k hlt hlt'
        unfold partI; omega
      go_wp2
      go_round
      case rel => exact ⟨k + 1, by omega, by go_num, by rw [HS.out]⟩
      case measure => simp [intOf]; omega
    · obtain rfl : k = l.length := by omega
      go_wp2_with (first | (go_at_call 72; refine (sum_c _ _ _ _ hr (by omega) HC.out).mono ?_; rintro e w' ⟨rfl, rfl⟩) | (go_at_call 71; refine (share_c _ _ _ (by omega) (by omega) (by omega) (by omega) (by omega) _).mono ?_; rintro e w' ⟨rfl, zb⟩; obtain ⟨zc, zf⟩ := bcell zb; have zz := zb.size; (try simp at zz); (try have zq := fun b (h : b < w.heap.size) => (by omega : b < w'.heap.size)); (try have zq0 : w.heap.size < w'.heap.size := by omega); (try have zq1 : w.heap.size + 1 < w'.heap.size := by omega); (try have zq2 : w.heap.size + 2 < w'.heap.size := by omega); (try have zr0 : wr.heap.size < w'.heap.size := by omega); (try have zr1 : wr.heap.size + 1 < w'.heap.size := by omega)))
      go_ret
      refine ⟨ret_int ?_, (by repeat (with_reducible first | exact Below.refl _ _ | assumption | refine Below.al ?_ _ | refine Below.dr ?_ | refine Below.drn ?_ _ | refine Below.sc ?_ (by simp <;> omega) _ | refine Below.th ?_ (by assumption)))⟩
      have e : partI (d * maxI m) l m l.length = d * maxI m + dotI l m := by
        unfold partI; rw [List.take_length, show m.take l.length = m from by rw [← HLEN.out, List.take_length]]
      rw [e]
end Go.Proofs.Ytjbgdpbeabakiaa
