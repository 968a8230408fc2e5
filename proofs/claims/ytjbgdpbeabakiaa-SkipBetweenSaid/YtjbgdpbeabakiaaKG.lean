/- Chapter 11: what statements do not look at: Great, long. -/
import Derived.Test.YtjbgdpbeabakiaaKF
namespace Go.Proofs.Ytjbgdpbeabakiaa
open Go.RowKit Go.Shelf
set_option linter.unusedVariables false
set_option linter.unusedSimpArgs false
def manyB (ll : List (List Int)) : Bool := (decide (3 < ll.length) && decide (ll.length ≤ 8)) || decide (9 < ll.length)
def longB (c : List Int) : Bool := decide (60 < c.length)
def greatB (m : Riv) : Bool := manyB m.a || m.a.any longB || manyB m.b || m.b.any longB
set_option maxHeartbeats 4000000 in
set_option maxRecDepth 100000 in
theorem Great_c (A0 A1 : Option Addr) (c0 c1 : Nat) (m : Riv) (w : World) (hra : Rows w.heap.size w A0 m.a) (hrb : Rows w.heap.size w A1 m.b) (la : m.a.length ≤ 9223372036854775807) (lb : m.b.length ≤ 9223372036854775807) (ca : ∀ c ∈ m.a, c.length ≤ 9223372036854775807) (cb : ∀ c ∈ m.b, c.length ≤ 9223372036854775807) :
    Calls Try.prog 8 #[rivV m A0 A1 c0 c1] w fun e w' => e = .returned (.bool (greatB m)) ∧ Below w.heap.size w w' := by
  unfold rivV
  go_enter Try.func8, Try.ntmps8
  go_wp2_with fail
  go_loop [3, 4] (fun t i => t = .int .i64 0 ∨ (t = .int .i64 1 ∧ Aside (manyB m.a = false ∧ m.a.any longB = false)) ∨ (t = .int .i64 2 ∧ Aside (manyB m.a = false ∧ m.a.any longB = false ∧ manyB m.b = false ∧ m.b.any longB = false))) (fun t _ => 2 - (intOf t).toNat)
  case atStart => exact .inl rfl
  case round =>
    rcases hrel with rfl | ⟨rfl, H1⟩ | ⟨rfl, H2⟩
    · cases hg : manyB m.a
      · have hlen : ¬ (3 < m.a.length ∧ m.a.length ≤ 8) ∧ ¬ 9 < m.a.length := by simp [manyB] at hg; omega
        have HG := Lib.hid hg
        clear hg
        by_cases h3 : 3 < m.a.length
        all_goals
          have h8 : 3 < m.a.length → ¬ m.a.length ≤ 8 := fun h => by omega
          have h9 : ¬ 9 < m.a.length := hlen.2
          try have h10 := h8 h3
          clear hlen h8
          go_wp2_with fail
          go_loop [4] (fun i => ∃ k : Nat, k ≤ m.a.length ∧ i = .int .i64 k ∧ Hid (NoBefore longB m.a k)) (fun i => m.a.length - (intOf i).toNat)
          case atStart => exact ⟨0, Nat.zero_le _, rfl, NoBefore.zero _ _⟩
          case round =>
            obtain ⟨k, hk, rfl, HN⟩ := hrel
            by_cases hlt : k < m.a.length
            · obtain ⟨b, o, A', c', hA, hb, hcell, _⟩ := hra.at hlt
              have hs := HN.out.succ hlt
              have hmem := List.getElem_mem hlt
              have hAN := Aside.mk (fun (hp : longB m.a[k] = true) => (List.any_eq_true.2 ⟨_, hmem, hp⟩ : m.a.any longB = true))
              have hs := Aside.mk hs
              generalize m.a[k] = c at *
              by_cases hc : 60 < c.length
              · go_wp2
                go_ret
                exact ⟨ret_bool (by have := hAN.out (by simp [longB, hc]); simp [greatB, this]), (by repeat (with_reducible first | exact Below.refl _ _ | assumption | refine Below.al ?_ _ | refine Below.dr ?_ | refine Below.drn ?_ _ | refine Below.sc ?_ (by simp <;> omega) _ | refine Below.th ?_ (by assumption)))⟩
              · have HQ := Lib.hid (show longB c = false by simp [longB, hc])
                subst hA
                go_wp2
                go_round
                case rel => exact ⟨k + 1, by omega, by go_num, hs.out HQ.out⟩
                case measure => simp [intOf]; omega
            · obtain rfl : k = m.a.length := by omega
              have hany : m.a.any longB = false := by rw [← idx_any, idx_none _ _ HN.out]; rfl
              have HA := Lib.hid hany
              clear hany
              go_wp2
              go_round
              case rel => exact (.inr (.inl ⟨by go_num, ⟨by have a1 := HG.out; have a2 := HA.out; simp [a1, a2]⟩⟩))
              case measure => simp [intOf]
      · have hlen : (3 < m.a.length ∧ m.a.length ≤ 8) ∨ 9 < m.a.length := by simp [manyB] at hg; omega
        have HG := Lib.hid hg
        clear hg
        rcases hlen with ⟨h3, h8⟩ | h9
        · go_wp2
          go_ret
          exact ⟨ret_bool (by simp [greatB, HG.out]), (by repeat (with_reducible first | exact Below.refl _ _ | assumption | refine Below.al ?_ _ | refine Below.dr ?_ | refine Below.drn ?_ _ | refine Below.sc ?_ (by simp <;> omega) _ | refine Below.th ?_ (by assumption)))⟩
        · have h3 : 3 < m.a.length := by omega
          have h8 : ¬ m.a.length ≤ 8 := by omega
          go_wp2
          go_ret
          exact ⟨ret_bool (by simp [greatB, HG.out]), (by repeat (with_reducible first | exact Below.refl _ _ | assumption | refine Below.al ?_ _ | refine Below.dr ?_ | refine Below.drn ?_ _ | refine Below.sc ?_ (by simp <;> omega) _ | refine Below.th ?_ (by assumption)))⟩
    · cases hg : manyB m.b
      · have hlen : ¬ (3 < m.b.length ∧ m.b.length ≤ 8) ∧ ¬ 9 < m.b.length := by simp [manyB] at hg; omega
        have HG := Lib.hid hg
        clear hg
        by_cases h3 : 3 < m.b.length
        all_goals
          have h8 : 3 < m.b.length → ¬ m.b.length ≤ 8 := fun h => by omega
          have h9 : ¬ 9 < m.b.length := hlen.2
          try have h10 := h8 h3
          clear hlen h8
          go_wp2_with fail
          go_loop [4] (fun i => ∃ k : Nat, k ≤ m.b.length ∧ i = .int .i64 k ∧ Hid (NoBefore longB m.b k)) (fun i => m.b.length - (intOf i).toNat)
          case atStart => exact ⟨0, Nat.zero_le _, rfl, NoBefore.zero _ _⟩
          case round =>
            obtain ⟨k, hk, rfl, HN⟩ := hrel
            by_cases hlt : k < m.b.length
            · obtain ⟨b, o, A', c', hA, hb, hcell, _⟩ := hrb.at hlt
              have hs := HN.out.succ hlt
              have hmem := List.getElem_mem hlt
              have hAN := Aside.mk (fun (hp : longB m.b[k] = true) => (List.any_eq_true.2 ⟨_, hmem, hp⟩ : m.b.any longB = true))
              have hs := Aside.mk hs
              generalize m.b[k] = c at *
              by_cases hc : 60 < c.length
              · go_wp2
                go_ret
                exact ⟨ret_bool (by have := hAN.out (by simp [longB, hc]); simp [greatB, this]), (by repeat (with_reducible first | exact Below.refl _ _ | assumption | refine Below.al ?_ _ | refine Below.dr ?_ | refine Below.drn ?_ _ | refine Below.sc ?_ (by simp <;> omega) _ | refine Below.th ?_ (by assumption)))⟩
              · have HQ := Lib.hid (show longB c = false by simp [longB, hc])
                subst hA
                go_wp2
                go_round
                case rel => exact ⟨k + 1, by omega, by go_num, hs.out HQ.out⟩
                case measure => simp [intOf]; omega
            · obtain rfl : k = m.b.length := by omega
              have hany : m.b.any longB = false := by rw [← idx_any, idx_none _ _ HN.out]; rfl
              have HA := Lib.hid hany
              clear hany
              go_wp2
              go_round
              case rel => exact (.inr (.inr ⟨by go_num, ⟨by have a1 := HG.out; have a2 := HA.out; have a3 := H1.out.1; have a4 := H1.out.2; simp [a1, a2, a3, a4]⟩⟩))
              case measure => simp [intOf]
      · have hlen : (3 < m.b.length ∧ m.b.length ≤ 8) ∨ 9 < m.b.length := by simp [manyB] at hg; omega
        have HG := Lib.hid hg
        clear hg
        rcases hlen with ⟨h3, h8⟩ | h9
        · go_wp2
          go_ret
          exact ⟨ret_bool (by simp [greatB, HG.out]), (by repeat (with_reducible first | exact Below.refl _ _ | assumption | refine Below.al ?_ _ | refine Below.dr ?_ | refine Below.drn ?_ _ | refine Below.sc ?_ (by simp <;> omega) _ | refine Below.th ?_ (by assumption)))⟩
        · have h3 : 3 < m.b.length := by omega
          have h8 : ¬ m.b.length ≤ 8 := by omega
          go_wp2
          go_ret
          exact ⟨ret_bool (by simp [greatB, HG.out]), (by repeat (with_reducible first | exact Below.refl _ _ | assumption | refine Below.al ?_ _ | refine Below.dr ?_ | refine Below.drn ?_ _ | refine Below.sc ?_ (by simp <;> omega) _ | refine Below.th ?_ (by assumption)))⟩
    · go_wp2
      go_ret
      obtain ⟨h1, h2, h3, h4⟩ := H2.out
      exact ⟨ret_bool (by simp [greatB, h1, h2, h3, h4]), (by repeat (with_reducible first | exact Below.refl _ _ | assumption | refine Below.al ?_ _ | refine Below.dr ?_ | refine Below.drn ?_ _ | refine Below.sc ?_ (by simp <;> omega) _ | refine Below.th ?_ (by assumption)))⟩
set_option maxHeartbeats 1000000 in
theorem long_c (A0 A1 : Option Addr) (c0 c1 : Nat) (m : Riv) (n l h most : Int) (w : World) (hra : Rows w.heap.size w A0 m.a) (hrb : Rows w.heap.size w A1 m.b) (la : m.a.length ≤ 9223372036854775807) (lb : m.b.length ≤ 9223372036854775807) (ca : ∀ c ∈ m.a, c.length ≤ 9223372036854775807) (cb : ∀ c ∈ m.b, c.length ≤ 9223372036854775807) :
    Calls Try.prog 16 #[rivV m A0 A1 c0 c1, .agg #[.int .i64 n, .int .i64 l, .int .i64 h], .int .i64 most] w fun e w' => e = .returned (.bool (greatB m || (decide (most < n) && decide (n ≤ 12)))) ∧ Below w.heap.size w w' := by
  have T1 := fun o o' => (hra.toRows (Below.al (Below.al (Below.refl w.heap.size w) o) o') (by simp; omega))
  have T2 := fun o o' => (hrb.toRows (Below.al (Below.al (Below.refl w.heap.size w) o) o') (by simp; omega))
  have K := Aside.mk (fun w ra rb => Great_c A0 A1 c0 c1 m w ra rb la lb ca cb)
  have T := Aside.mk (And.intro T1 T2)
  have X1 : Blk ((w.alloc (.cells #[.int .i64 m.d, .slice A0 m.a.length c0, .slice A1 m.b.length c1] 25)).alloc (.cells #[.int .i64 n, .int .i64 l, .int .i64 h] 27)) (w.heap.size + 1) #[.int .i64 n, .int .i64 l, .int .i64 h] 27 := Blk.fresh' (by simp)
  clear T1 T2 ca cb
  unfold rivV at *
  cases hg : greatB m
  · have HG := Lib.hid hg
    rw [hg] at K
    by_cases h1 : most < n
    all_goals
      by_cases h2 : n ≤ 12
    all_goals
      have HQ := Lib.hid (And.intro h1 h2)
      go_enter Try.func16, Try.ntmps16
      go_wp2_with fail
      refine (K.out _ (T.out.1 _ _) (T.out.2 _ _)).mono ?_
      rintro e w' ⟨rfl, zb⟩
      have X := X1.be zb
      have x0 := (X.cell 0).trans (show _ = some (.int .i64 n) from rfl)
      have xl := X.lt
      clear T K X1 X
      go_wp2
      go_ret
      exact ⟨ret_bool (by obtain ⟨q1, q2⟩ := HQ.out; simp [HG.out, q1, q2]), (by repeat (with_reducible first | exact Below.refl _ _ | assumption | refine Below.al ?_ _ | refine Below.dr ?_ | refine Below.drn ?_ _ | refine Below.sc ?_ (by simp <;> omega) _ | refine Below.th ?_ (by assumption)))⟩
  · have HG := Lib.hid hg
    rw [hg] at K
    go_enter Try.func16, Try.ntmps16
    go_wp2_with fail
    refine (K.out _ (T.out.1 _ _) (T.out.2 _ _)).mono ?_
    rintro e w' ⟨rfl, zb⟩
    clear T K X1
    go_wp2
    go_ret
    exact ⟨ret_bool (by simp [HG.out]), (by repeat (with_reducible first | exact Below.refl _ _ | assumption | refine Below.al ?_ _ | refine Below.dr ?_ | refine Below.drn ?_ _ | refine Below.sc ?_ (by simp <;> omega) _ | refine Below.th ?_ (by assumption)))⟩
end Go.Proofs.Ytjbgdpbeabakiaa
