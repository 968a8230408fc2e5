/- Contracts of the reference: down, means, Values, Mean. -/
import Derived.Test.YtknpkldmihhddaaW3
namespace Go.Proofs.Ytknpkldmihhddaa
open Go.RowKit Go.Shelf
set_option linter.unusedVariables false
set_option linter.unusedSimpArgs false

theorem tdiv_tmod_pos {a b : Int} (hb : 0 < b) : (a.tmod b < 0 ∧ a.tdiv b - 1 = a / b) ∨ (¬ a.tmod b < 0 ∧ a.tdiv b = a / b) := by
  have e := Int.tdiv_eq_ediv (a := a) (b := b)
  have f := Int.tmod_eq_emod (a := a) (b := b)
  have m0 := Int.emod_nonneg a (show b ≠ 0 by omega)
  have m1 := Int.emod_lt_of_pos a hb
  have hs : b.sign = 1 := Int.sign_eq_one_of_pos hb
  by_cases h : 0 ≤ a ∨ b ∣ a
  · rw [if_pos h] at e f
    right; omega
  · rw [if_neg h] at e f
    left; rw [hs] at e
    have : (b.natAbs : Int) = b := by omega
    omega
theorem down_c (a b : Int) (w : World) (hb : 0 < b) (hb2 : b ≤ 4294967296) (ha : -4611686018427387904 ≤ a) (ha2 : a ≤ 4611686018427387904) :
    Calls Try.prog 66 #[.int .i64 a, .int .i64 b] w fun e w' => e = .returned (.int .i64 (a / b)) ∧ w = w' := by
  have hb0 : (b == 0) = false := by simp; omega
  have bd : -4611686018427387904 ≤ a.tdiv b ∧ a.tdiv b ≤ 4611686018427387904 := by
    have h1 := Int.natAbs_tdiv_le_natAbs a b
    omega
  have bm : -4294967296 ≤ a.tmod b ∧ a.tmod b ≤ 4294967296 := by
    have f := Int.tmod_eq_emod (a := a) (b := b)
    have m0 := Int.emod_nonneg a (show b ≠ 0 by omega)
    have m1 := Int.emod_lt_of_pos a hb
    split at f <;> omega
  obtain ⟨bd1, bd2⟩ := bd
  obtain ⟨bm1, bm2⟩ := bm
  rcases tdiv_tmod_pos (a := a) hb with ⟨h, h2⟩ | ⟨h, h2⟩
  · have HE := Lib.hid h2
    clear h2
    go_enter Try.func66, Try.ntmps66
    go_wp2
    go_ret
    exact ⟨ret_int HE.out, rfl⟩
  · have HE := Lib.hid h2
    clear h2
    go_enter Try.func66, Try.ntmps66
    go_wp2
    go_ret
    exact ⟨ret_int HE.out, rfl⟩
theorem div_bd {x s M : Int} (hs : 0 < s) (h1 : -M ≤ x) (h2 : x ≤ M) : -M ≤ x / s ∧ x / s ≤ M := by
  have e := Int.emod_add_mul_ediv x s
  have m0 := Int.emod_nonneg x (show s ≠ 0 by omega)
  have m1 := Int.emod_lt_of_pos x hs
  by_cases h : 0 ≤ x
  · have a := Int.ediv_nonneg h (show 0 ≤ s by omega)
    have b := Int.ediv_le_self s h
    omega
  · have a : x / s < 0 := Int.ediv_neg_of_neg_of_pos (by omega) hs
    have b : x ≤ x / s := by
      have c : s * (x / s) ≤ 1 * (x / s) := Int.mul_le_mul_of_nonpos_right (by omega) (by omega)
      have d : x / s * s ≤ x := Int.ediv_mul_le x (by omega)
      have f : x < (x / s + 1) * s := Int.lt_ediv_add_one_mul_self x hs
      have g : (x / s + 1) * s ≤ (x / s + 1) * 1 := Int.mul_le_mul_of_nonpos_left (by omega) (by omega)
      omega
    omega
/-- the least of the first k values, the first one at the start -/
def minG (m : List Int) (k : Nat) : Int := (m.take k).foldl minF (m.getD 0 0)
theorem minG_snoc (m : List Int) (k : Nat) (hk : k < m.length) : minG m (k + 1) = minF (minG m k) m[k] := foldl_snoc _ _ _ _ hk
theorem minG_eq (m : List Int) : minG m m.length = minI m := by
  unfold minG
  rw [List.take_length]
  cases m with
  | nil => rfl
  | cons x t => simp [minI, minF]
theorem minG_bd (m : List Int) (h : 1 ≤ m.length) (lo hi : Int) (hv : ∀ i, (h : i < m.length) → lo ≤ m[i] ∧ m[i] ≤ hi) : ∀ k, k ≤ m.length → lo ≤ minG m k ∧ minG m k ≤ hi
  | 0, _ => by have := hv 0 (by omega); simpa [minG, show 0 < m.length from by omega] using this
  | k + 1, hk => by
    have ih := minG_bd m h lo hi hv k (by omega)
    have a := hv k (by omega)
    rw [minG_snoc m k (by omega)]; unfold minF; split <;> omega
def maxG (m : List Int) (k : Nat) : Int := (m.take k).foldl maxF (m.getD 0 0)
theorem maxG_snoc (m : List Int) (k : Nat) (hk : k < m.length) : maxG m (k + 1) = maxF (maxG m k) m[k] := foldl_snoc _ _ _ _ hk
theorem maxG_eq (m : List Int) : maxG m m.length = maxI m := by
  unfold maxG
  rw [List.take_length]
  cases m with
  | nil => rfl
  | cons x t => simp [maxI, maxF]
theorem maxG_bd (m : List Int) (h : 1 ≤ m.length) (lo hi : Int) (hv : ∀ i, (h : i < m.length) → lo ≤ m[i] ∧ m[i] ≤ hi) : ∀ k, k ≤ m.length → lo ≤ maxG m k ∧ maxG m k ≤ hi
  | 0, _ => by have := hv 0 (by omega); simpa [maxG, show 0 < m.length from by omega] using this
  | k + 1, hk => by
    have ih := maxG_bd m h lo hi hv k (by omega)
    have a := hv k (by omega)
    rw [maxG_snoc m k (by omega)]; unfold maxF; split <;> omega
theorem RefValues_c (A : Option Addr) (c : Nat) (l : List Int) (n : Int) (w : World) (hr : Arr w A (ints l)) (hl : l.length < 4294967296) :
    Calls Try.prog 49 #[.slice A l.length c, .int .i64 n] w fun e w' => e = .returned (.bool (!l.any badValue && decide ((l.length : Int) = n))) ∧ w = w' := by
  go_enter Try.func49, Try.ntmps49
  go_wp2
  go_loop [5] (fun i => ∃ k : Nat, k ≤ l.length ∧ i = .int .i64 k ∧ Hid (NoBefore badValue l k)) (fun i => l.length - (intOf i).toNat)
  case atStart => exact ⟨0, Nat.zero_le _, rfl, NoBefore.zero _ _⟩
  case round =>
    obtain ⟨k, hk, rfl, HN⟩ := hrel
    by_cases hlt : k < l.length
    · obtain ⟨b, o, rfl, hb, hcell⟩ := hr.int_at hlt
      by_cases h1 : l[k] < -68719476736
      · have hp : badValue l[k] = true := by simp [badValue, inR]; omega
        have HP := Lib.hid hp
        clear hp
        go_wp2
        go_ret
        exact ⟨ret_bool (by have : l.any badValue = true := List.any_eq_true.2 ⟨_, List.getElem_mem hlt, HP.out⟩; simp [this]), rfl⟩
      · by_cases h2 : 68719476736 < l[k]
        · have hp : badValue l[k] = true := by simp [badValue, inR]; omega
          have HP := Lib.hid hp
          clear hp
          go_wp2
          go_ret
          exact ⟨ret_bool (by have : l.any badValue = true := List.any_eq_true.2 ⟨_, List.getElem_mem hlt, HP.out⟩; simp [this]), rfl⟩
        · have hp : badValue l[k] = false := by simp [badValue, inR]; omega
          have HP := Lib.hid hp
          clear hp
          go_wp2
          go_round
          case rel => exact ⟨k + 1, by omega, by go_num, HN.out.succ hlt HP.out⟩
          case measure => simp [intOf]; omega
    · obtain rfl : k = l.length := by omega
      go_wp2
      go_ret
      exact ⟨ret_bool (by have h0 : l.any badValue = false := by rw [← idx_any, idx_none _ _ HN.out]; rfl
                          rw [h0]; rw [Bool.eq_iff_iff]; simp), rfl⟩
theorem mean_low (l m : List Int) (d : Int) : (dotI l m + d * minI m) / (sumI l + d) = lowM l m d := by
  simp [lowM, shr, Int.add_comm]
theorem mean_high (l m : List Int) (d : Int) : -((-(dotI l m + d * maxI m)) / (sumI l + d)) = highM l m d := by
  simp [highM, shr, Int.add_comm]
set_option maxHeartbeats 4000000 in
set_option maxRecDepth 100000 in
theorem means_c (A B : Option Addr) (c c' : Nat) (l m : List Int) (d : Int) (w : World) (hr : Arr w A (ints l)) (hs : Arr w B (ints m)) (hc : Counts l) (hv : Vals m) (hlen : m.length = l.length) (hpos : 1 ≤ l.length) (h49 : l.length ≤ 49)
    (hd : 1 ≤ d) (hd2 : d ≤ 1000) :
    Calls Try.prog 50 #[.slice A l.length c, .slice B m.length c', .slice B m.length c', .int .i64 d] w fun e w' => e = .returned (.agg #[.int .i64 (lowM l m d), .int .i64 (highM l m d)]) ∧ Below w.heap.size w w' := by
  have HG1 := Aside.mk (minG_bd m (by omega) _ _ hv)
  have HG2 := Aside.mk (maxG_bd m (by omega) _ _ hv)
  have HD := Aside.mk (dotI_bd l m hc hv)
  have HDS := Aside.mk (dotI_snoc l m)
  have HSUM := sumI_bd l hc l.length (Nat.le_refl _)
  rw [List.take_length] at HSUM
  obtain ⟨s1, s2⟩ := HSUM
  have K4 := Aside.mk (fun w hr => RefSum_c A c l w hr (by omega) hc)
  have HV := Aside.mk hv
  have HC := Aside.mk hc
  have HLEN := Lib.hid hlen
  have hm0 : 0 < m.length := by omega
  obtain ⟨b0, o0, hB0, hb00, hcell0⟩ := hs.int_at (i := 0) hm0
  rw [Nat.add_zero] at hcell0
  have hG1 : m[0] = minG m 0 := by simp [minG, hm0]
  have hG2 : m[0] = maxG m 0 := by simp [maxG, hm0]
  have HG0 := Lib.hid hG1
  have HG00 := Lib.hid hG2
  clear hv hc hlen hG1 hG2
  subst hB0
  go_enter Try.func50, Try.ntmps50
  go_wp2_with (go_at_call 48; refine (K4.out _ (Arr.al hr _)).mono ?_; rintro e w' ⟨rfl, rfl⟩)
  go_loopw [10, 11, 12, 13, 14] (fun x y a b i wr => ∃ k : Nat, k ≤ l.length ∧ i = .int .i64 k ∧ x = .int .i64 (dotI (l.take k) (m.take k)) ∧ y = .int .i64 (dotI (l.take k) (m.take k)) ∧ a = .int .i64 (minG m k) ∧ b = .int .i64 (maxG m k) ∧ ∃ n, wr = (w.alloc (.cells #[.int .i64 0, .int .i64 0] 64)).drewN n) (fun _ _ _ _ i _ => l.length - (intOf i).toNat)
  case atStart => exact ⟨0, Nat.zero_le _, rfl, by simp [dotI], by simp [dotI], by rw [HG0.out], by rw [HG00.out], 0, rfl⟩
  case round =>
    obtain ⟨k, hk, rfl, rfl, rfl, rfl, rfl, nd, rfl⟩ := hrel
    have hb := HD.out k hk (by have := HLEN.out; omega)
    have hb1 : -68719476736000000 * 49 ≤ dotI (l.take k) (m.take k) ∧ dotI (l.take k) (m.take k) ≤ 68719476736000000 * 49 := by omega
    have hg1 := HG1.out k (by have := HLEN.out; omega)
    have hg2 := HG2.out k (by have := HLEN.out; omega)
    by_cases hlt : k < l.length
    · have hlt' : k < m.length := by have := HLEN.out; omega
      obtain ⟨b, o, rfl, hb0, hcell⟩ := hr.int_at hlt
      obtain ⟨b', o', hA', hb0', hcell'⟩ := hs.int_at hlt'
      obtain ⟨rfl, rfl⟩ : b0 = b' ∧ o0 = o' := by simpa using hA'
      have hk2 := HC.out k hlt
      have hk3 := HV.out k hlt'
      obtain ⟨q1, q2⟩ := mul_bd hk2.1 hk2.2 hk3.1 hk3.2
      have HS := Lib.hid (HDS.out k hlt hlt')
      have HM1 := Lib.hid (minG_snoc m k hlt')
      have HM2 := Lib.hid (maxG_snoc m k hlt')
      clear hb
      go_wp2_with fail
      go_quiet (fail)
      go_wp2_with fail
      go_quiet (fail)
      go_wp2
      go_roundw
      case rel => exact ⟨k + 1, by omega, by go_num, by rw [HS.out], by rw [HS.out], by rw [HM1.out]; rfl, by rw [HM2.out]; rfl, _, rfl⟩
      case measure => simp [intOf]; omega
    · obtain rfl : k = l.length := by omega
      have t1 : m.take l.length = m := by rw [← HLEN.out]; exact List.take_length
      have t2 : minG m l.length = minI m := by rw [← HLEN.out]; exact minG_eq m
      have t3 : maxG m l.length = maxI m := by rw [← HLEN.out]; exact maxG_eq m
      simp only [List.take_length, t1, t2, t3] at hb1 hg1 hg2 ⊢
      obtain ⟨p1, p2⟩ := mul_bd (a := d) (by omega) (by omega) hg1.1 hg1.2
      obtain ⟨p3, p4⟩ := mul_bd (a := d) (by omega) (by omega) hg2.1 hg2.2
      clear t1 t2 t3 hb
      go_wp2_with fail
      refine (down_c _ _ _ (by omega) (by omega) (by omega) (by omega)).mono ?_
      rintro e w' ⟨rfl, rfl⟩
      go_wp2_with fail
      refine (down_c _ _ _ (by omega) (by omega) (by omega) (by omega)).mono ?_
      rintro e w' ⟨rfl, rfl⟩
      have qb := div_bd (x := -(dotI l m + d * maxI m)) (s := sumI l + d) (M := 4611686018427387904) (by omega) (by omega) (by omega)
      go_wp2
      refine bodyPost_ret (v := .agg #[.int .i64 ((dotI l m + d * minI m) / (sumI l + d)), .int .i64 (-(-(dotI l m + d * maxI m) / (sumI l + d)))]) (by simp [*, results, Try.results50, go_sem]) rfl ?_
      exact ⟨by rw [mean_low, mean_high], (by repeat (with_reducible first | exact Below.refl _ _ | assumption | refine Below.al ?_ _ | refine Below.dr ?_ | refine Below.drn ?_ _ | refine Below.sc ?_ (by simp <;> omega) _ | refine Below.th ?_ (by assumption)))⟩
def refMeanV (l m : List Int) (d : Int) : Value := if meanOk l m d then .tuple #[.agg #[.int .i64 (lowM l m d), .int .i64 (highM l m d)], .int .i64 0] else .tuple #[.agg #[.int .i64 0, .int .i64 0], .int .i64 2]
set_option maxHeartbeats 4000000 in
set_option maxRecDepth 100000 in
theorem RefMean_c (A B : Option Addr) (c c' : Nat) (l m : List Int) (d : Int) (w : World) (hr : Arr w A (ints l)) (hs : Arr w B (ints m)) (hl : l.length < 4294967296) (hm : m.length < 4294967296) :
    Calls Try.prog 18 #[.slice A l.length c, .slice B m.length c', .int .i64 d] w fun e w' => e = .returned (refMeanV l m d) ∧ Below w.heap.size w w' := by
  have K1 := Aside.mk (fun w hr => RefCounts_c A c l w hr hl)
  have K2 := Aside.mk (fun w hs => RefValues_c B c' m l.length w hs hm)
  have K3 := Aside.mk (fun w => ref10_in_c d 1 1000 w)
  by_cases hok : meanOk l m d = true
  · have HV := Lib.hid hok
    have h3 : (countedB l = true ∧ m.length = l.length) ∧ m.any badValue = false ∧ inR d 1 1000 = true := by simpa [meanOk, and_assoc] using hok
    clear hok
    obtain ⟨⟨e1, e0⟩, e2, e3⟩ := h3
    have ev : (!m.any badValue && decide ((m.length : Int) = (l.length : Int))) = true := by simp [e2, e0]
    rw [e1] at K1; rw [ev] at K2; rw [e3] at K3
    obtain ⟨hc, n1, n2⟩ := Counts.of e1
    obtain ⟨d1, d2⟩ := inR_iff.1 e3
    have K4 := Aside.mk (fun w hr hs => means_c A B c c' l m d w hr hs hc (Vals.of e2) e0 n1 n2 d1 d2)
    clear hc e1 e2 e3 ev e0
    go_enter Try.func18, Try.ntmps18
    go_wp2_with (first | (go_at_call 46; refine (K1.out _ (Arr.al hr _)).mono ?_; rintro e w' ⟨rfl, rfl⟩) | (go_at_call 49; refine (K2.out _ (Arr.al hs _)).mono ?_; rintro e w' ⟨rfl, rfl⟩) | (go_at_call 30; refine (K3.out _).mono ?_; rintro e w' ⟨rfl, rfl⟩) | (go_at_call 50; refine (K4.out _ (Arr.al hr _) (Arr.al hs _)).mono ?_; rintro e w' ⟨rfl, zb⟩; obtain ⟨zc, zf⟩ := bcell zb; have zz := zb.size; (try simp at zz); (try have zq := fun b (h : b < w.heap.size) => (by omega : b < w'.heap.size)); (try have zq0 : w.heap.size < w'.heap.size := by omega); (try have zq1 : w.heap.size + 1 < w'.heap.size := by omega); (try have zq2 : w.heap.size + 2 < w'.heap.size := by omega); (try have zr0 : wr.heap.size < w'.heap.size := by omega); (try have zr1 : wr.heap.size + 1 < w'.heap.size := by omega)))
    refine bodyPost_ret (v := .tuple #[.agg #[.int .i64 (lowM l m d), .int .i64 (highM l m d)], .int .i64 0]) (by simp [*, results, Try.results18, go_sem]) rfl ?_
    exact ⟨by simp [refMeanV, HV.out], (by repeat (with_reducible first | exact Below.refl _ _ | assumption | refine Below.al ?_ _ | refine Below.dr ?_ | refine Below.drn ?_ _ | refine Below.sc ?_ (by simp <;> omega) _ | refine Below.th ?_ (by assumption)))⟩
  · have h3 : countedB l = false ∨ (countedB l = true ∧ (!m.any badValue && decide ((m.length : Int) = (l.length : Int))) = false) ∨ (countedB l = true ∧ (!m.any badValue && decide ((m.length : Int) = (l.length : Int))) = true ∧ inR d 1 1000 = false) := by
      cases h1 : countedB l <;> cases h2 : m.any badValue <;> cases h3 : inR d 1 1000 <;> by_cases h4 : m.length = l.length <;> simp [meanOk, h1, h2, h3, h4] at hok ⊢ <;> omega
    have HV := Lib.hid (show meanOk l m d = false by simpa using hok)
    clear hok
    rcases h3 with h | ⟨h, h1⟩ | ⟨h, h1, h2⟩
    · rw [h] at K1
      clear h
      go_enter Try.func18, Try.ntmps18
      go_wp2_with (go_at_call 46; refine (K1.out _ (Arr.al hr _)).mono ?_; rintro e w' ⟨rfl, rfl⟩)
      refine bodyPost_ret (v := .tuple #[.agg #[.int .i64 0, .int .i64 0], .int .i64 2]) (by simp [*, results, Try.results18, go_sem]) rfl ?_
      exact ⟨by simp [refMeanV, HV.out], (by repeat (with_reducible first | exact Below.refl _ _ | assumption | refine Below.al ?_ _ | refine Below.dr ?_ | refine Below.drn ?_ _ | refine Below.sc ?_ (by simp <;> omega) _ | refine Below.th ?_ (by assumption)))⟩
    all_goals
      rw [h] at K1
      rw [h1] at K2
      try rw [h2] at K3
      clear h h1
      try clear h2
      go_enter Try.func18, Try.ntmps18
      go_wp2_with (first | (go_at_call 46; refine (K1.out _ (Arr.al hr _)).mono ?_; rintro e w' ⟨rfl, rfl⟩) | (go_at_call 49; refine (K2.out _ (Arr.al hs _)).mono ?_; rintro e w' ⟨rfl, rfl⟩) | (go_at_call 30; refine (K3.out _).mono ?_; rintro e w' ⟨rfl, rfl⟩))
      refine bodyPost_ret (v := .tuple #[.agg #[.int .i64 0, .int .i64 0], .int .i64 2]) (by simp [*, results, Try.results18, go_sem]) rfl ?_
      exact ⟨by simp [refMeanV, HV.out], (by repeat (with_reducible first | exact Below.refl _ _ | assumption | refine Below.al ?_ _ | refine Below.dr ?_ | refine Below.drn ?_ _ | refine Below.sc ?_ (by simp <;> omega) _ | refine Below.th ?_ (by assumption)))⟩
end Go.Proofs.Ytknpkldmihhddaa
