/- Chapter 11: contracts of the reference's checks and next. -/
import Derived.Test.YtjbgdpbeabakiaaKG
import Derived.Test.YtjbgdpbeabakiaaW3
namespace Go.Proofs.Ytjbgdpbeabakiaa
open Go.RowKit Go.Shelf
set_option linter.unusedVariables false
set_option linter.unusedSimpArgs false
theorem ref11_in_c (a b c : Int) (w : World) : Calls Try.prog 27 #[.int .i64 a, .int .i64 b, .int .i64 c] w fun e w' => e = .returned (.bool (inR a b c)) ∧ w = w' := by
  go_enter Try.func27, Try.ntmps27
  go_wp2_with (go_at_call 38; refine (ref01_In_c _ _ _ _).mono ?_; rintro e w' ⟨rfl, rfl⟩)
  go_ret
  exact ⟨rfl, rfl⟩
theorem RefState_c (n l h : Int) (w : World) : Calls Try.prog 26 #[.agg #[.int .i64 n, .int .i64 l, .int .i64 h]] w fun e w' => e = .returned (.bool (stOk n l h)) ∧ Below w.heap.size w w' := by
  cases h1 : inR n 0 12
  · go_enter Try.func26, Try.ntmps26
    go_wp2_with (go_at_call 27; refine (ref11_in_c _ _ _ _).mono ?_; rintro e w' ⟨rfl, rfl⟩)
    go_ret
    exact ⟨ret_bool (by simp [stOk, h1]), (by repeat (with_reducible first | exact Below.refl _ _ | assumption | refine Below.al ?_ _ | refine Below.dr ?_ | refine Below.drn ?_ _ | refine Below.sc ?_ (by simp <;> omega) _ | refine Below.th ?_ (by assumption)))⟩
  · cases h2 : inR l (-96) 96
    · go_enter Try.func26, Try.ntmps26
      go_wp2_with (go_at_call 27; refine (ref11_in_c _ _ _ _).mono ?_; rintro e w' ⟨rfl, rfl⟩)
      go_ret
      exact ⟨ret_bool (by simp [stOk, h1, h2]), (by repeat (with_reducible first | exact Below.refl _ _ | assumption | refine Below.al ?_ _ | refine Below.dr ?_ | refine Below.drn ?_ _ | refine Below.sc ?_ (by simp <;> omega) _ | refine Below.th ?_ (by assumption)))⟩
    · cases h3 : inR h 0 1
      all_goals
        go_enter Try.func26, Try.ntmps26
        go_wp2_with (go_at_call 27; refine (ref11_in_c _ _ _ _).mono ?_; rintro e w' ⟨rfl, rfl⟩)
        go_ret
        exact ⟨ret_bool (by simp [stOk, h1, h2, h3]), (by repeat (with_reducible first | exact Below.refl _ _ | assumption | refine Below.al ?_ _ | refine Below.dr ?_ | refine Below.drn ?_ _ | refine Below.sc ?_ (by simp <;> omega) _ | refine Below.th ?_ (by assumption)))⟩
theorem refcode11_c (b : Bool) (w : World) : Calls Try.prog 32 #[.bool b] w fun e w' => e = .returned (.int .i64 (eArg b)) ∧ w = w' := by
  cases b
  all_goals
    go_enter Try.func32, Try.ntmps32
    go_wp2
    go_ret
    exact ⟨rfl, rfl⟩
theorem RefCheckState_c (n l h : Int) (w : World) : Calls Try.prog 15 #[.agg #[.int .i64 n, .int .i64 l, .int .i64 h]] w fun e w' => e = .returned (.int .i64 (eArg (stOk n l h))) ∧ Below w.heap.size w w' := by
  go_enter Try.func15, Try.ntmps15
  go_wp2_with (first | (go_at_call 26; refine (RefState_c _ _ _ _).mono ?_; rintro e w' ⟨rfl, zb⟩; obtain ⟨zc, zf⟩ := bcell zb; have zz := zb.size; (try simp at zz); (try have zq := fun b (h : b < w.heap.size) => (by omega : b < w'.heap.size)); (try have zq0 : w.heap.size < w'.heap.size := by omega); (try have zq1 : w.heap.size + 1 < w'.heap.size := by omega); (try have zq2 : w.heap.size + 2 < w'.heap.size := by omega); (try have zr0 : wr.heap.size < w'.heap.size := by omega); (try have zr1 : wr.heap.size + 1 < w'.heap.size := by omega)) | (go_at_call 32; refine (refcode11_c _ _).mono ?_; rintro e w' ⟨rfl, rfl⟩))
  go_ret
  exact ⟨rfl, (by repeat (with_reducible first | exact Below.refl _ _ | assumption | refine Below.al ?_ _ | refine Below.dr ?_ | refine Below.drn ?_ _ | refine Below.sc ?_ (by simp <;> omega) _ | refine Below.th ?_ (by assumption)))⟩
theorem shortS (ll : List (List Int)) (h : Short ll) : Short ll := h
set_option maxHeartbeats 4000000 in
set_option maxRecDepth 100000 in
theorem RefRivals_c (A0 A1 : Option Addr) (c0 c1 : Nat) (m : Riv) (w : World) (har : Args w A0 A1 m) :
    Calls Try.prog 33 #[rivV m A0 A1 c0 c1] w fun e w' => e = .returned (.bool (rivOk m)) ∧ Below w.heap.size w w' := by
  obtain ⟨hra, hrb, sa, sb, la, lb⟩ := har
  have SA := Aside.mk sa
  have SB := Aside.mk sb
  have KI := Aside.mk (fun a b c w => ref11_in_c a b c w)
  clear sa sb
  unfold rivV
  go_enter Try.func33, Try.ntmps33
  go_wp2_with fail
  go_loop [3, 4, 5, 6] (fun t x i y => t = .int .i64 0 ∨ (t = .int .i64 1 ∧ Aside (stylesOk m.a = true)) ∨ (t = .int .i64 2 ∧ Aside (stylesOk m.a = true ∧ stylesOk m.b = true))) (fun t _ _ _ => 2 - (intOf t).toNat)
  case atStart => exact .inl rfl
  case round =>
    rcases hrel with rfl | ⟨rfl, H1⟩ | ⟨rfl, H2⟩
    · cases h1 : inR m.a.length 1 8
      · have HQ := Lib.hid h1
        clear h1
        have K := KI.out m.a.length 1 8
        rw [HQ.out] at K
        go_wp2_with fail
        refine (K _).mono ?_
        rintro e w' ⟨rfl, rfl⟩
        go_wp2
        go_ret
        exact ⟨ret_bool (by simp [rivOk, stylesOk, HQ.out]), (by repeat (with_reducible first | exact Below.refl _ _ | assumption | refine Below.al ?_ _ | refine Below.dr ?_ | refine Below.drn ?_ _ | refine Below.sc ?_ (by simp <;> omega) _ | refine Below.th ?_ (by assumption)))⟩
      · have HQ := Lib.hid h1
        have hl8 := inR_iff.1 h1
        clear h1
        have K := KI.out m.a.length 1 8
        rw [HQ.out] at K
        go_wp2_with fail
        refine (K _).mono ?_
        rintro e w' ⟨rfl, rfl⟩
        clear K
        go_wp2_with fail
        go_loop [5, 6] (fun i x => ∃ k : Nat, k ≤ m.a.length ∧ i = .int .i64 k ∧ Hid (NoBefore badStyle m.a k)) (fun i _ => m.a.length - (intOf i).toNat)
        case atStart => exact ⟨0, Nat.zero_le _, rfl, NoBefore.zero _ _⟩
        case round =>
          obtain ⟨k, hk, rfl, HN⟩ := hrel
          by_cases hlt : k < m.a.length
          · obtain ⟨b, o, A', c', hA, hb, hcell, ha⟩ := hra.at hlt
            have ha := ha.arr (Nat.le_refl _)
            have hs := HN.out.succ hlt
            have hmem := List.getElem_mem hlt
            have hAN := Aside.mk (fun (hp : badStyle m.a[k] = true) => (List.any_eq_true.2 ⟨_, hmem, hp⟩ : m.a.any badStyle = true))
            have hs := Aside.mk hs
            have h60 := SA.out k hlt
            generalize m.a[k] = c at *
            have KC := RefCounts_c A' c' c _ (Arr.al ha (.cells #[.int .i64 m.d, .slice A0 m.a.length c0, .slice A1 m.b.length c1] 25)) (by omega)
            subst hA
            cases hc : countedB c
            · rw [hc] at KC
              have HC := Lib.hid hc
              clear hc
              go_wp2_with fail
              refine KC.mono ?_
              rintro e w' ⟨rfl, rfl⟩
              go_wp2
              go_ret
              exact ⟨ret_bool (by have := hAN.out (by simp [badStyle, HC.out]); simp [rivOk, stylesOk, this]), (by repeat (with_reducible first | exact Below.refl _ _ | assumption | refine Below.al ?_ _ | refine Below.dr ?_ | refine Below.drn ?_ _ | refine Below.sc ?_ (by simp <;> omega) _ | refine Below.th ?_ (by assumption)))⟩
            · rw [hc] at KC
              have HC := Lib.hid hc
              clear hc
              by_cases h17 : (c.length : Int) = 17
              · have h17' : ((c.length : Int) != 17) = false := by simp [h17]
                have H17 := Lib.hid h17
                have hbad := Lib.hid (show badStyle c = false by simp [badStyle, HC.out, h17])
                clear h17
                go_wp2_with fail
                refine KC.mono ?_
                rintro e w' ⟨rfl, rfl⟩
                go_wp2
                go_round
                case rel => exact ⟨k + 1, by omega, by go_num, hs.out hbad.out⟩
                case measure => simp [intOf]; omega
              · have h17' : ((c.length : Int) != 17) = true := by simp [h17]
                have H17 := Lib.hid h17
                clear h17
                go_wp2_with fail
                refine KC.mono ?_
                rintro e w' ⟨rfl, rfl⟩
                go_wp2
                go_ret
                exact ⟨ret_bool (by have := hAN.out (by simp [badStyle, HC.out, H17.out]); simp [rivOk, stylesOk, this]), (by repeat (with_reducible first | exact Below.refl _ _ | assumption | refine Below.al ?_ _ | refine Below.dr ?_ | refine Below.drn ?_ _ | refine Below.sc ?_ (by simp <;> omega) _ | refine Below.th ?_ (by assumption)))⟩
          · obtain rfl : k = m.a.length := by omega
            have hany : m.a.any badStyle = false := by rw [← idx_any, idx_none _ _ HN.out]; rfl
            have HA := Lib.hid hany
            clear hany
            go_wp2
            go_round
            case rel => exact (.inr (.inl ⟨by go_num, ⟨stylesOk_of HQ.out HA.out⟩⟩))
            case measure => simp [intOf]
    · cases h1 : inR m.b.length 1 8
      · have HQ := Lib.hid h1
        clear h1
        have K := KI.out m.b.length 1 8
        rw [HQ.out] at K
        go_wp2_with fail
        refine (K _).mono ?_
        rintro e w' ⟨rfl, rfl⟩
        go_wp2
        go_ret
        exact ⟨ret_bool (by simp [rivOk, stylesOk, HQ.out]), (by repeat (with_reducible first | exact Below.refl _ _ | assumption | refine Below.al ?_ _ | refine Below.dr ?_ | refine Below.drn ?_ _ | refine Below.sc ?_ (by simp <;> omega) _ | refine Below.th ?_ (by assumption)))⟩
      · have HQ := Lib.hid h1
        have hl8 := inR_iff.1 h1
        clear h1
        have K := KI.out m.b.length 1 8
        rw [HQ.out] at K
        go_wp2_with fail
        refine (K _).mono ?_
        rintro e w' ⟨rfl, rfl⟩
        clear K
        go_wp2_with fail
        go_loop [5, 6] (fun i x => ∃ k : Nat, k ≤ m.b.length ∧ i = .int .i64 k ∧ Hid (NoBefore badStyle m.b k)) (fun i _ => m.b.length - (intOf i).toNat)
        case atStart => exact ⟨0, Nat.zero_le _, rfl, NoBefore.zero _ _⟩
        case round =>
          obtain ⟨k, hk, rfl, HN⟩ := hrel
          by_cases hlt : k < m.b.length
          · obtain ⟨b, o, A', c', hA, hb, hcell, ha⟩ := hrb.at hlt
            have ha := ha.arr (Nat.le_refl _)
            have hs := HN.out.succ hlt
            have hmem := List.getElem_mem hlt
            have hAN := Aside.mk (fun (hp : badStyle m.b[k] = true) => (List.any_eq_true.2 ⟨_, hmem, hp⟩ : m.b.any badStyle = true))
            have hs := Aside.mk hs
            have h60 := SB.out k hlt
            generalize m.b[k] = c at *
            have KC := RefCounts_c A' c' c _ (Arr.al ha (.cells #[.int .i64 m.d, .slice A0 m.a.length c0, .slice A1 m.b.length c1] 25)) (by omega)
            subst hA
            cases hc : countedB c
            · rw [hc] at KC
              have HC := Lib.hid hc
              clear hc
              go_wp2_with fail
              refine KC.mono ?_
              rintro e w' ⟨rfl, rfl⟩
              go_wp2
              go_ret
              exact ⟨ret_bool (by have := hAN.out (by simp [badStyle, HC.out]); simp [rivOk, stylesOk, this]), (by repeat (with_reducible first | exact Below.refl _ _ | assumption | refine Below.al ?_ _ | refine Below.dr ?_ | refine Below.drn ?_ _ | refine Below.sc ?_ (by simp <;> omega) _ | refine Below.th ?_ (by assumption)))⟩
            · rw [hc] at KC
              have HC := Lib.hid hc
              clear hc
              by_cases h17 : (c.length : Int) = 17
              · have h17' : ((c.length : Int) != 17) = false := by simp [h17]
                have H17 := Lib.hid h17
                have hbad := Lib.hid (show badStyle c = false by simp [badStyle, HC.out, h17])
                clear h17
                go_wp2_with fail
                refine KC.mono ?_
                rintro e w' ⟨rfl, rfl⟩
                go_wp2
                go_round
                case rel => exact ⟨k + 1, by omega, by go_num, hs.out hbad.out⟩
                case measure => simp [intOf]; omega
              · have h17' : ((c.length : Int) != 17) = true := by simp [h17]
                have H17 := Lib.hid h17
                clear h17
                go_wp2_with fail
                refine KC.mono ?_
                rintro e w' ⟨rfl, rfl⟩
                go_wp2
                go_ret
                exact ⟨ret_bool (by have := hAN.out (by simp [badStyle, HC.out, H17.out]); simp [rivOk, stylesOk, this]), (by repeat (with_reducible first | exact Below.refl _ _ | assumption | refine Below.al ?_ _ | refine Below.dr ?_ | refine Below.drn ?_ _ | refine Below.sc ?_ (by simp <;> omega) _ | refine Below.th ?_ (by assumption)))⟩
          · obtain rfl : k = m.b.length := by omega
            have hany : m.b.any badStyle = false := by rw [← idx_any, idx_none _ _ HN.out]; rfl
            have HA := Lib.hid hany
            clear hany
            go_wp2
            go_round
            case rel => exact (.inr (.inr ⟨by go_num, ⟨H1.out, stylesOk_of HQ.out HA.out⟩⟩))
            case measure => simp [intOf]
    · cases h3 : inR m.d 1 1000
      all_goals
        have HQ := Lib.hid h3
        have K := KI.out m.d 1 1000
        rw [h3] at K
        clear h3
        go_wp2_with fail
        refine (K _).mono ?_
        rintro e w' ⟨rfl, rfl⟩
        go_wp2
        go_ret
        exact ⟨ret_bool (by obtain ⟨q1, q2⟩ := H2.out; simp [rivOk, q1, q2, HQ.out]), (by repeat (with_reducible first | exact Below.refl _ _ | assumption | refine Below.al ?_ _ | refine Below.dr ?_ | refine Below.drn ?_ _ | refine Below.sc ?_ (by simp <;> omega) _ | refine Below.th ?_ (by assumption)))⟩
theorem RefCheckRivals_c (A0 A1 : Option Addr) (c0 c1 : Nat) (m : Riv) (w : World) (har : Args w A0 A1 m) :
    Calls Try.prog 13 #[rivV m A0 A1 c0 c1] w fun e w' => e = .returned (.int .i64 (eArg (rivOk m))) ∧ Below w.heap.size w w' := by
  have K := Aside.mk (fun w (ha : Args w A0 A1 m) => RefRivals_c A0 A1 c0 c1 m w ha)
  have HA := har.be (Below.al (Below.refl _ _) (.cells #[.int .i64 m.d, .slice A0 m.a.length c0, .slice A1 m.b.length c1] 25))
  unfold rivV at *
  clear har
  go_enter Try.func13, Try.ntmps13
  go_wp2_with fail
  refine (K.out _ HA).mono ?_
  rintro e w' ⟨rfl, zb⟩
  clear K HA
  go_wp2_with (go_at_call 32; refine (refcode11_c _ _).mono ?_; rintro e w' ⟨rfl, rfl⟩)
  go_ret
  exact ⟨rfl, (by repeat (with_reducible first | exact Below.refl _ _ | assumption | refine Below.al ?_ _ | refine Below.dr ?_ | refine Below.drn ?_ _ | refine Below.sc ?_ (by simp <;> omega) _ | refine Below.th ?_ (by assumption)))⟩
end Go.Proofs.Ytjbgdpbeabakiaa
