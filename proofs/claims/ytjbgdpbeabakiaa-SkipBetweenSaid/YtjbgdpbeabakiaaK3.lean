/- Chapter 11: contracts of skip.next, chosen and its closures. -/
import Derived.Test.YtjbgdpbeabakiaaK2
import Derived.Test.YtjbgdpbeabakiaaK0
namespace Go.Proofs.Ytjbgdpbeabakiaa
open Go.RowKit Go.Shelf
set_option linter.unusedVariables false
set_option linter.unusedSimpArgs false
def clampL (x : Int) : Int := max (-96) (min 96 x)
def nextL (l h p : Int) : Int := clampL (l + if h = 0 then p else -p)
def nextH (h p : Int) : Int := if 0 < p then 1 - h else h
theorem nextL_bd (l h p : Int) : -96 ≤ nextL l h p ∧ nextL l h p ≤ 96 := by unfold nextL clampL; omega
theorem nextH_bd {h : Int} (p : Int) (hh : h = 0 ∨ h = 1) : nextH h p = 0 ∨ nextH h p = 1 := by unfold nextH; split <;> omega
set_option maxHeartbeats 1000000 in
theorem next_c (n l h p : Int) (w : World) (n0 : 0 ≤ n) (n1 : n ≤ 12) (l0 : -96 ≤ l) (l1 : l ≤ 96) (hh : h = 0 ∨ h = 1) (p0 : -8 ≤ p) (p1 : p ≤ 8) :
    Calls Try.prog 25 #[.agg #[.int .i64 n, .int .i64 l, .int .i64 h], .int .i64 p] w fun e w' => e = .returned (.agg #[.int .i64 (n - 1), .int .i64 (nextL l h p), .int .i64 (nextH h p)]) ∧ Below w.heap.size w w' := by
  rcases hh with rfl | rfl
  · by_cases hp : 0 < p
    all_goals
      go_enter Try.func25, Try.ntmps25
      go_wp2_with fail
      go_quiet (fail)
      go_wp2_with fail
      all_goals
        refine bodyPost_ret (v := .agg #[.int .i64 (n - 1), .int .i64 (nextL l 0 p), .int .i64 (nextH 0 p)]) (by simp [results, Try.results25, go_sem, nextL, clampL, nextH, *] <;> omega) rfl ?_
        exact ⟨rfl, (by repeat (with_reducible first | exact Below.refl _ _ | assumption | refine Below.al ?_ _ | refine Below.dr ?_ | refine Below.drn ?_ _ | refine Below.sc ?_ (by simp <;> omega) _ | refine Below.th ?_ (by assumption)))⟩
  · by_cases hp : 0 < p
    all_goals
      go_enter Try.func25, Try.ntmps25
      go_wp2_with fail
      go_quiet (fail)
      go_wp2_with fail
      all_goals
        refine bodyPost_ret (v := .agg #[.int .i64 (n - 1), .int .i64 (nextL l 1 p), .int .i64 (nextH 1 p)]) (by simp [results, Try.results25, go_sem, nextL, clampL, nextH, *] <;> omega) rfl ?_
        exact ⟨rfl, (by repeat (with_reducible first | exact Below.refl _ _ | assumption | refine Below.al ?_ _ | refine Below.dr ?_ | refine Below.drn ?_ _ | refine Below.sc ?_ (by simp <;> omega) _ | refine Below.th ?_ (by assumption)))⟩
theorem chosen1_c (a b : Int) (w : World) : Calls Try.prog 55 #[.int .i64 a, .int .i64 b] w fun e w' => e = .returned (.int .i64 (max a b)) ∧ w = w' := by
  go_enter Try.func55, Try.ntmps55
  go_wp2
  all_goals
    go_ret
    exact ⟨ret_int (by omega), rfl⟩
theorem chosen2_c (a b : Int) (w : World) : Calls Try.prog 56 #[.int .i64 a, .int .i64 b] w fun e w' => e = .returned (.int .i64 (min a b)) ∧ w = w' := by
  go_enter Try.func56, Try.ntmps56
  go_wp2
  all_goals
    go_ret
    exact ⟨ret_int (by omega), rfl⟩
/-- the one of two hopes that a team chooses -/
def pickH (h : Int) (a b : Int × Int) : Int × Int := if h = 0 then (max a.1 b.1, max a.2 b.2) else (min a.1 b.1, min a.2 b.2)
def chosenH (l : List (Int × Int)) (h : Int) : Int × Int := match l with | [] => (0, 0) | x :: t => t.foldl (pickH h) x
theorem chosenH_snoc (l : List (Int × Int)) (h : Int) (k : Nat) (hk : k < l.length) (h1 : 1 ≤ k) : chosenH (l.take (k + 1)) h = pickH h (chosenH (l.take k) h) l[k] := by
  cases l with
  | nil => simp at hk
  | cons x t =>
    obtain ⟨j, rfl⟩ : ∃ j, k = j + 1 := ⟨k - 1, by omega⟩
    simp only [List.take_succ_cons, chosenH]
    rw [foldl_snoc _ _ _ j (by simpa using hk)]; rfl
def encH (x : Int × Int) : List Value := [.int .i64 x.1, .int .i64 x.2]
def hopes (l : List (Int × Int)) : List Value := cells encH l
theorem hopes_at {w : World} {A : Option Addr} {l : List (Int × Int)} (h : Arr w A (hopes l)) {i : Nat} (hi : i < l.length) :
    ∃ b o, A = some ⟨b, o, none⟩ ∧ b < w.heap.size ∧ w.cell? ⟨b, o + i * 2, none⟩ = some (.int .i64 (l[i].1)) ∧ w.cell? ⟨b, o + i * 2 + 1, none⟩ = some (.int .i64 (l[i].2)) := by
  obtain ⟨b, o, hA, hb, hc⟩ := h.at (enc := encH) (n := 2) (fun _ => rfl) (by omega) hi
  exact ⟨b, o, hA, hb, by simpa [encH] using hc 0 (by omega), by simpa [encH] using hc 1 (by omega)⟩
theorem hopes_len (l : List (Int × Int)) : (hopes l).length = l.length * 2 := cells_length (enc := encH) (n := 2) (fun _ => rfl) l
set_option maxRecDepth 100000 in
set_option maxHeartbeats 1000000 in
theorem chosen_c0 (A : Option Addr) (c : Nat) (l : List (Int × Int)) (w : World) (hr : Arr w A (hopes l)) (hl : l.length < 4294967296) (h1 : 1 ≤ l.length) (hc : l.length ≤ c) (hc2 : c ≤ 9223372036854775807) :
    Calls Try.prog 44 #[.slice A l.length c, .int .i64 0] w fun e w' => e = .returned (.agg #[.int .i64 (chosenH l 0).1, .int .i64 (chosenH l 0).2]) ∧ Below w.heap.size w w' := by
  have hia : ∀ (x y : Value) (w : World), (Instr.index 95 (.agg #[x, y]) (.int .i64 0)).run Try.prog w = .ok x w := fun x y w => by kernel_rfl
  obtain ⟨b, o, rfl, hb, hx, hy⟩ := hopes_at hr (i := 0) (by omega)
  simp only [Nat.zero_mul, Nat.add_zero] at hx hy
  have hz : chosenH (l.take (0 + 1)) 0 = l[0] := by cases l with | nil => simp at h1 | cons x t => rfl
  have HZ := Lib.hid hz
  clear hz
  by_cases c1 : c = 1
  · obtain ⟨x, rfl⟩ : ∃ x, l = [x] := by
      match l, h1, hc with
      | [x], _, _ => exact ⟨x, rfl⟩
      | _ :: _ :: _, _, h => simp at h; omega
    subst c1
    simp only [List.getElem_cons_zero, List.length_cons, List.length_nil, Nat.zero_add] at *
    go_enter Try.func44, Try.ntmps44
    go_wp2_with fail
    go_loop [18] (fun i => i = .int .i64 0) (fun _ => 0)
    case atStart => rfl
    case round =>
      subst hrel
      go_wp2
      refine bodyPost_ret (v := .agg #[.int .i64 x.1, .int .i64 x.2]) (by simp [results, Try.results44, go_sem]) rfl ?_
      exact ⟨rfl, (by repeat (with_reducible first | exact Below.refl _ _ | assumption | refine Below.al ?_ _ | refine Below.dr ?_ | refine Below.drn ?_ _ | refine Below.sc ?_ (by simp <;> omega) _ | refine Below.th ?_ (by assumption)))⟩
  go_enter Try.func44, Try.ntmps44
  go_wp2_with fail
  have X1 : Blk ((w.alloc (.cells #[.int .i64 0, .int .i64 0] 43)).alloc (.cells #[.int .i64 (l[0].1), .int .i64 (l[0].2)] 43)) w.heap.size #[.int .i64 0, .int .i64 0] 43 := (Blk.fresh _ _ _).al _
  have X2 : Blk ((w.alloc (.cells #[.int .i64 0, .int .i64 0] 43)).alloc (.cells #[.int .i64 (l[0].1), .int .i64 (l[0].2)] 43)) (w.heap.size + 1) #[.int .i64 (l[0].1), .int .i64 (l[0].2)] 43 := by simpa using Blk.fresh (w.alloc (.cells #[.int .i64 0, .int .i64 0] 43)) #[.int .i64 (l[0].1), .int .i64 (l[0].2)] 43
  have HB : Below w.heap.size w ((w.alloc (.cells #[.int .i64 0, .int .i64 0] 43)).alloc (.cells #[.int .i64 (l[0].1), .int .i64 (l[0].2)] 43)) := (by repeat (with_reducible first | exact Below.refl _ _ | assumption | refine Below.al ?_ _ | refine Below.dr ?_ | refine Below.drn ?_ _ | refine Below.sc ?_ (by simp <;> omega) _ | refine Below.th ?_ (by assumption)))
  generalize (w.alloc (.cells #[.int .i64 0, .int .i64 0] 43)).alloc (.cells #[.int .i64 (l[0].1), .int .i64 (l[0].2)] 43) = v at *
  rw [← HZ.out] at X2
  go_loopw [8, 18] (fun x i wr => ∃ k : Nat, k + 1 ≤ l.length ∧ i = .int .i64 k ∧ Below w.heap.size w wr ∧ Aside (Blk wr w.heap.size #[.int .i64 0, .int .i64 0] 43 ∧ Blk wr (w.heap.size + 1) #[.int .i64 (chosenH (l.take (k + 1)) 0).1, .int .i64 (chosenH (l.take (k + 1)) 0).2] 43)) (fun _ i _ => l.length - 1 - (intOf i).toNat)
  case atStart => exact ⟨0, by omega, rfl, HB, ⟨X1, X2⟩⟩
  case round =>
    obtain ⟨k, hk, rfl, hB, HX⟩ := hrel
    have hx0 := HX.out.1.cell 0
    have hx1 := HX.out.1.cell 1
    have hf0 := HX.out.1.frozen 0
    have hf1 := HX.out.1.frozen 1
    have hy0 := HX.out.2.cell 0
    have hy1 := HX.out.2.cell 1
    have hg0 := HX.out.2.frozen 0
    have hg1 := HX.out.2.frozen 1
    have hlt2 := HX.out.2.lt
    simp at hx0 hx1 hy0 hy1
    by_cases hlt : k + 1 < l.length
    · obtain ⟨b', o', hA, hb', hcx, hcy⟩ := hopes_at (hr.below hB) (i := k + 1) hlt
      obtain ⟨rfl, rfl⟩ : b = b' ∧ o = o' := by simpa using hA
      have HS := Lib.hid (chosenH_snoc l 0 (k + 1) hlt (by omega))
      have e1 : o + (k + 1) * 2 = o + 2 + k * 2 := by omega
      rw [e1] at hcx hcy
      have hk1 : k < l.length - 1 := by omega
      clear e1 hA
      generalize chosenH (l.take (k + 1)) 0 = q at *
      generalize l[k + 1] = r at *
      have hws : wr.heap.size = wr.heap.size := rfl
      go_wp2_with fail
      refine wp_region_tail 13 (by kernel_rfl) (by kernel_rfl) ?_
      simp only [List.take_succ_cons, List.take_zero, List.drop_succ_cons, List.drop_zero]
      iterate 5 still_step
      still_call (still_q (chosen1_c _ _ _))
      iterate 5 still_step
      still_call (still_q (chosen1_c _ _ _))
      still_step
      refine wpStill_nil ?_
      go_wp2
      go_roundw
      case rel => exact ⟨k + 1, by omega, by go_num, (by repeat (with_reducible first | exact Below.refl _ _ | assumption | refine Below.al ?_ _ | refine Below.dr ?_ | refine Below.drn ?_ _ | refine Below.sc ?_ (by simp <;> omega) _ | refine Below.th ?_ (by assumption))), ⟨(((HX.out.1.other ⟨w.heap.size + 1, 0, none⟩ _ (by simp)).other ⟨w.heap.size + 1, 1, none⟩ _ (by simp)).al _).dr, by rw [HS.out]; simpa [pickH] using (((HX.out.2.set 0 (.int .i64 (max q.1 r.1))).set 1 (.int .i64 (max q.2 r.2))).al (.cells #[.int .i64 r.1, .int .i64 r.2] 43)).dr⟩⟩
      case measure => simp [intOf]; omega
    · obtain rfl : k = l.length - 1 := by omega
      go_wp2
      refine bodyPost_ret (v := .agg #[.int .i64 (chosenH l 0).1, .int .i64 (chosenH l 0).2]) (by simp [hx0, hx1, results, Try.results44, go_sem]) rfl ?_
      exact ⟨rfl, (by repeat (with_reducible first | exact Below.refl _ _ | assumption | refine Below.al ?_ _ | refine Below.dr ?_ | refine Below.drn ?_ _ | refine Below.sc ?_ (by simp <;> omega) _ | refine Below.th ?_ (by assumption)))⟩
set_option maxRecDepth 100000 in
set_option maxHeartbeats 1000000 in
theorem chosen_c1 (A : Option Addr) (c : Nat) (l : List (Int × Int)) (w : World) (hr : Arr w A (hopes l)) (hl : l.length < 4294967296) (h1 : 1 ≤ l.length) (hc : l.length ≤ c) (hc2 : c ≤ 9223372036854775807) :
    Calls Try.prog 44 #[.slice A l.length c, .int .i64 1] w fun e w' => e = .returned (.agg #[.int .i64 (chosenH l 1).1, .int .i64 (chosenH l 1).2]) ∧ Below w.heap.size w w' := by
  have hia : ∀ (x y : Value) (w : World), (Instr.index 95 (.agg #[x, y]) (.int .i64 1)).run Try.prog w = .ok y w := fun x y w => by kernel_rfl
  obtain ⟨b, o, rfl, hb, hx, hy⟩ := hopes_at hr (i := 0) (by omega)
  simp only [Nat.zero_mul, Nat.add_zero] at hx hy
  have hz : chosenH (l.take (0 + 1)) 1 = l[0] := by cases l with | nil => simp at h1 | cons x t => rfl
  have HZ := Lib.hid hz
  clear hz
  by_cases c1 : c = 1
  · obtain ⟨x, rfl⟩ : ∃ x, l = [x] := by
      match l, h1, hc with
      | [x], _, _ => exact ⟨x, rfl⟩
      | _ :: _ :: _, _, h => simp at h; omega
    subst c1
    simp only [List.getElem_cons_zero, List.length_cons, List.length_nil, Nat.zero_add] at *
    go_enter Try.func44, Try.ntmps44
    go_wp2_with fail
    go_loop [18] (fun i => i = .int .i64 0) (fun _ => 0)
    case atStart => rfl
    case round =>
      subst hrel
      go_wp2
      refine bodyPost_ret (v := .agg #[.int .i64 x.1, .int .i64 x.2]) (by simp [results, Try.results44, go_sem]) rfl ?_
      exact ⟨rfl, (by repeat (with_reducible first | exact Below.refl _ _ | assumption | refine Below.al ?_ _ | refine Below.dr ?_ | refine Below.drn ?_ _ | refine Below.sc ?_ (by simp <;> omega) _ | refine Below.th ?_ (by assumption)))⟩
  go_enter Try.func44, Try.ntmps44
  go_wp2_with fail
  have X1 : Blk ((w.alloc (.cells #[.int .i64 0, .int .i64 0] 43)).alloc (.cells #[.int .i64 (l[0].1), .int .i64 (l[0].2)] 43)) w.heap.size #[.int .i64 0, .int .i64 0] 43 := (Blk.fresh _ _ _).al _
  have X2 : Blk ((w.alloc (.cells #[.int .i64 0, .int .i64 0] 43)).alloc (.cells #[.int .i64 (l[0].1), .int .i64 (l[0].2)] 43)) (w.heap.size + 1) #[.int .i64 (l[0].1), .int .i64 (l[0].2)] 43 := by simpa using Blk.fresh (w.alloc (.cells #[.int .i64 0, .int .i64 0] 43)) #[.int .i64 (l[0].1), .int .i64 (l[0].2)] 43
  have HB : Below w.heap.size w ((w.alloc (.cells #[.int .i64 0, .int .i64 0] 43)).alloc (.cells #[.int .i64 (l[0].1), .int .i64 (l[0].2)] 43)) := (by repeat (with_reducible first | exact Below.refl _ _ | assumption | refine Below.al ?_ _ | refine Below.dr ?_ | refine Below.drn ?_ _ | refine Below.sc ?_ (by simp <;> omega) _ | refine Below.th ?_ (by assumption)))
  generalize (w.alloc (.cells #[.int .i64 0, .int .i64 0] 43)).alloc (.cells #[.int .i64 (l[0].1), .int .i64 (l[0].2)] 43) = v at *
  rw [← HZ.out] at X2
  go_loopw [8, 18] (fun x i wr => ∃ k : Nat, k + 1 ≤ l.length ∧ i = .int .i64 k ∧ Below w.heap.size w wr ∧ Aside (Blk wr w.heap.size #[.int .i64 0, .int .i64 0] 43 ∧ Blk wr (w.heap.size + 1) #[.int .i64 (chosenH (l.take (k + 1)) 1).1, .int .i64 (chosenH (l.take (k + 1)) 1).2] 43)) (fun _ i _ => l.length - 1 - (intOf i).toNat)
  case atStart => exact ⟨0, by omega, rfl, HB, ⟨X1, X2⟩⟩
  case round =>
    obtain ⟨k, hk, rfl, hB, HX⟩ := hrel
    have hx0 := HX.out.1.cell 0
    have hx1 := HX.out.1.cell 1
    have hf0 := HX.out.1.frozen 0
    have hf1 := HX.out.1.frozen 1
    have hy0 := HX.out.2.cell 0
    have hy1 := HX.out.2.cell 1
    have hg0 := HX.out.2.frozen 0
    have hg1 := HX.out.2.frozen 1
    have hlt2 := HX.out.2.lt
    simp at hx0 hx1 hy0 hy1
    by_cases hlt : k + 1 < l.length
    · obtain ⟨b', o', hA, hb', hcx, hcy⟩ := hopes_at (hr.below hB) (i := k + 1) hlt
      obtain ⟨rfl, rfl⟩ : b = b' ∧ o = o' := by simpa using hA
      have HS := Lib.hid (chosenH_snoc l 1 (k + 1) hlt (by omega))
      have e1 : o + (k + 1) * 2 = o + 2 + k * 2 := by omega
      rw [e1] at hcx hcy
      have hk1 : k < l.length - 1 := by omega
      clear e1 hA
      generalize chosenH (l.take (k + 1)) 1 = q at *
      generalize l[k + 1] = r at *
      have hws : wr.heap.size = wr.heap.size := rfl
      go_wp2_with fail
      refine wp_region_tail 13 (by kernel_rfl) (by kernel_rfl) ?_
      simp only [List.take_succ_cons, List.take_zero, List.drop_succ_cons, List.drop_zero]
      iterate 5 still_step
      still_call (still_q (chosen2_c _ _ _))
      iterate 5 still_step
      still_call (still_q (chosen2_c _ _ _))
      still_step
      refine wpStill_nil ?_
      go_wp2
      go_roundw
      case rel => exact ⟨k + 1, by omega, by go_num, (by repeat (with_reducible first | exact Below.refl _ _ | assumption | refine Below.al ?_ _ | refine Below.dr ?_ | refine Below.drn ?_ _ | refine Below.sc ?_ (by simp <;> omega) _ | refine Below.th ?_ (by assumption))), ⟨(((HX.out.1.other ⟨w.heap.size + 1, 0, none⟩ _ (by simp)).other ⟨w.heap.size + 1, 1, none⟩ _ (by simp)).al _).dr, by rw [HS.out]; simpa [pickH] using (((HX.out.2.set 0 (.int .i64 (min q.1 r.1))).set 1 (.int .i64 (min q.2 r.2))).al (.cells #[.int .i64 r.1, .int .i64 r.2] 43)).dr⟩⟩
      case measure => simp [intOf]; omega
    · obtain rfl : k = l.length - 1 := by omega
      go_wp2
      refine bodyPost_ret (v := .agg #[.int .i64 (chosenH l 1).1, .int .i64 (chosenH l 1).2]) (by simp [hx0, hx1, results, Try.results44, go_sem]) rfl ?_
      exact ⟨rfl, (by repeat (with_reducible first | exact Below.refl _ _ | assumption | refine Below.al ?_ _ | refine Below.dr ?_ | refine Below.drn ?_ _ | refine Below.sc ?_ (by simp <;> omega) _ | refine Below.th ?_ (by assumption)))⟩
theorem chosen_c (A : Option Addr) (c : Nat) (l : List (Int × Int)) (h : Int) (w : World) (hr : Arr w A (hopes l)) (hl : l.length < 4294967296) (h1 : 1 ≤ l.length) (hc : l.length ≤ c) (hc2 : c ≤ 9223372036854775807) (hh : h = 0 ∨ h = 1) :
    Calls Try.prog 44 #[.slice A l.length c, .int .i64 h] w fun e w' => e = .returned (.agg #[.int .i64 (chosenH l h).1, .int .i64 (chosenH l h).2]) ∧ Below w.heap.size w w' := by
  rcases hh with rfl | rfl
  · exact chosen_c0 A c l w hr hl h1 hc hc2
  · exact chosen_c1 A c l w hr hl h1 hc hc2
end Go.Proofs.Ytjbgdpbeabakiaa
