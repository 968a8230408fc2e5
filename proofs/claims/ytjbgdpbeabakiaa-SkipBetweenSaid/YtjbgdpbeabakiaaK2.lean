/- Chapter 11: contracts of skip.CheckRivals, right, next, Next, chosen. -/
import Derived.Test.YtjbgdpbeabakiaaK1
import Derived.Test.YtjbgdpbeabakiaaQ
namespace Go.Proofs.Ytjbgdpbeabakiaa
open Go.RowKit Go.Shelf
set_option linter.unusedVariables false
set_option linter.unusedSimpArgs false
/-- a block of the call's own, known cell by cell -/
structure Box (W : World) (b : Nat) (cs : List Value) : Prop where
  lt : b < W.heap.size
  at_ : ∀ i, i < cs.length → W.cell? ⟨b, i, none⟩ = cs[i]?
theorem Box.below {W W' : World} {b : Nat} {cs : List Value} (h : Box W b cs) (hb : Below W.heap.size W W') : Box W' b cs :=
  ⟨Nat.lt_of_lt_of_le h.lt hb.size, fun i hi => (hb.cell (p := ⟨b, i, none⟩) h.lt).trans (h.at_ i hi)⟩
theorem Box.al {W : World} {b : Nat} {cs : List Value} (h : Box W b cs) (o : Obj) : Box (W.alloc o) b cs := h.below (Below.al (Below.refl _ _) _)
theorem Box.fresh (W : World) (cs : Array Value) (T : TypeId) (fz : Nat × Nat) : Box (W.alloc (.cells cs T fz)) W.heap.size cs.toList := by
  refine ⟨by simp, fun i hi => ?_⟩
  have e : (W.alloc (.cells cs T fz)).heap[W.heap.size]? = some (.cells cs T fz) := by show (W.heap.push _)[W.heap.size]? = _; simp
  simp only [World.cell?, e]
  simp
theorem Rows.toRows {B : Nat} {w w' : World} {A : Option Addr} {ll : List (List Int)} (h : Rows B w A ll) (hb : Below B w w') (hB : B ≤ w'.heap.size) : Rows w'.heap.size w' A ll := (h.below hb).mono hB
def rivV (m : Riv) (A0 A1 : Option Addr) (c0 c1 : Nat) : Value := .agg #[.int .i64 m.d, .slice A0 m.a.length c0, .slice A1 m.b.length c1]
theorem stylesOk_of {ll : List (List Int)} (h1 : inR ll.length 1 8 = true) (h2 : ll.any badStyle = false) : stylesOk ll = true := by simp [stylesOk, h1, h2]
set_option maxHeartbeats 2000000 in
set_option maxRecDepth 100000 in
theorem CheckRivals_c (A0 A1 : Option Addr) (c0 c1 : Nat) (m : Riv) (w : World) (hra : Rows w.heap.size w A0 m.a) (hrb : Rows w.heap.size w A1 m.b) (sa : Short m.a) (sb : Short m.b) (la : m.a.length < 4294967296) (lb : m.b.length < 4294967296) :
    Calls Try.prog 12 #[rivV m A0 A1 c0 c1] w fun e w' => e = .returned (.int .i64 (eArg (rivOk m))) ∧ Below w.heap.size w w' := by
  have hia : ∀ (x y : Value) (w : World), (Instr.index 23 (.agg #[x, y]) (.int .i64 0)).run Try.prog w = .ok x w := fun x y w => by kernel_rfl
  have hib : ∀ (x y : Value) (w : World), (Instr.index 23 (.agg #[x, y]) (.int .i64 1)).run Try.prog w = .ok y w := fun x y w => by kernel_rfl
  have KA := Aside.mk (fun w hra => ContainsStyle_c A0 c0 m.a w hra la sa)
  have KB := Aside.mk (fun w hrb => ContainsStyle_c A1 c1 m.b w hrb lb sb)
  clear sa sb
  unfold rivV
  go_enter Try.func12, Try.ntmps12
  have B0 : Box (w.alloc (.cells #[.int .i64 m.d, .slice A0 m.a.length c0, .slice A1 m.b.length c1] 25)) w.heap.size [.int .i64 m.d, .slice A0 m.a.length c0, .slice A1 m.b.length c1] := Box.fresh w #[.int .i64 m.d, .slice A0 m.a.length c0, .slice A1 m.b.length c1] 25 (0, 0)
  have HB0 : Below w.heap.size w (w.alloc (.cells #[.int .i64 m.d, .slice A0 m.a.length c0, .slice A1 m.b.length c1] 25)) := Below.al (Below.refl _ _) _
  go_wp2_with fail
  generalize w.alloc (.cells #[.int .i64 m.d, .slice A0 m.a.length c0, .slice A1 m.b.length c1] 25) = v at *
  go_loopw [4, 7] (fun x i wr => Below v.heap.size v wr ∧ ((i = .int .i64 0) ∨ (i = .int .i64 1 ∧ stylesOk m.a = true) ∨ (i = .int .i64 2 ∧ stylesOk m.a = true ∧ stylesOk m.b = true))) (fun _ i _ => 2 - (intOf i).toNat)
  case atStart => exact ⟨Below.refl _ _, .inl rfl⟩
  case round =>
    obtain ⟨hB, hi⟩ := hrel
    have HB := Below.th HB0 hB
    rcases hi with rfl | ⟨rfl, oa⟩ | ⟨rfl, oa, ob⟩
    · cases h1 : inR m.a.length 1 8
      · go_wp2_with (go_at_call 24; refine (skip_within_c _ _ _ _).mono ?_; rintro e w' ⟨rfl, rfl⟩)
        go_ret
        exact ⟨ret_int (by simp [rivOk, stylesOk, eArg, h1]), HB⟩
      · cases h2 : m.a.any badStyle
        all_goals
          have H2 := Lib.hid h2
          clear h2
          go_wp2_with (go_at_call 24; refine (skip_within_c _ _ _ _).mono ?_; rintro e w' ⟨rfl, rfl⟩)
          refine (KA.out _ (hra.toRows HB HB.size)).mono ?_
          rintro e w' ⟨rfl, zb⟩
          rw [H2.out]
          go_wp2
        · go_roundw
          case rel => exact ⟨Below.th hB zb, .inr (.inl ⟨by go_num, stylesOk_of h1 H2.out⟩)⟩
          case measure => simp [intOf]
        · go_ret
          exact ⟨ret_int (by simp [rivOk, stylesOk, eArg, H2.out]), Below.th HB zb⟩
    · cases h1 : inR m.b.length 1 8
      · go_wp2_with (go_at_call 24; refine (skip_within_c _ _ _ _).mono ?_; rintro e w' ⟨rfl, rfl⟩)
        go_ret
        exact ⟨ret_int (by simp [rivOk, stylesOk, eArg, h1]), HB⟩
      · cases h2 : m.b.any badStyle
        all_goals
          have H2 := Lib.hid h2
          clear h2
          go_wp2_with (go_at_call 24; refine (skip_within_c _ _ _ _).mono ?_; rintro e w' ⟨rfl, rfl⟩)
          refine (KB.out _ (hrb.toRows HB HB.size)).mono ?_
          rintro e w' ⟨rfl, zb⟩
          rw [H2.out]
          go_wp2
        · go_roundw
          case rel => exact ⟨Below.th hB zb, .inr (.inr ⟨by go_num, oa, stylesOk_of h1 H2.out⟩)⟩
          case measure => simp [intOf]
        · go_ret
          exact ⟨ret_int (by simp [rivOk, stylesOk, eArg, H2.out]), Below.th HB zb⟩
    · have B := B0.below hB
      have b0 := B.at_ 0 (by simp)
      simp at b0
      cases h3 : inR m.d 1 1000
      all_goals
        go_wp2_with (go_at_call 24; refine (skip_within_c _ _ _ _).mono ?_; rintro e w' ⟨rfl, rfl⟩)
        go_ret
        exact ⟨ret_int (by simp [rivOk, eArg, oa, ob, h3]), HB⟩
theorem right_c (A0 A1 : Option Addr) (c0 c1 : Nat) (m : Riv) (n l h : Int) (w : World) (hra : Rows w.heap.size w A0 m.a) (hrb : Rows w.heap.size w A1 m.b) (sa : Short m.a) (sb : Short m.b) (la : m.a.length < 4294967296) (lb : m.b.length < 4294967296) :
    Calls Try.prog 34 #[rivV m A0 A1 c0 c1, .agg #[.int .i64 n, .int .i64 l, .int .i64 h]] w fun e w' => e = .returned (.bool (rivOk m && stOk n l h)) ∧ Below w.heap.size w w' := by
  have K1 := Aside.mk (fun w hra hrb => CheckRivals_c A0 A1 c0 c1 m w hra hrb sa sb la lb)
  have K2 := Aside.mk (fun w => CheckState_c n l h w)
  unfold rivV at *
  clear sa sb
  have T1 := fun o o' => (hra.toRows (Below.al (Below.al (Below.refl w.heap.size w) o) o') (by simp; omega))
  have T2 := fun o o' => (hrb.toRows (Below.al (Below.al (Below.refl w.heap.size w) o) o') (by simp; omega))
  have T := Aside.mk (And.intro T1 T2)
  clear T1 T2
  cases h1 : rivOk m
  · rw [h1, eArg] at K1
    go_enter Try.func34, Try.ntmps34
    go_wp2_with fail
    refine (K1.out _ (T.out.1 _ _) (T.out.2 _ _)).mono ?_
    rintro e w' ⟨rfl, zb⟩
    go_wp2
    go_ret
    exact ⟨ret_bool (by simp), (by repeat (with_reducible first | exact Below.refl _ _ | assumption | refine Below.al ?_ _ | refine Below.dr ?_ | refine Below.drn ?_ _ | refine Below.sc ?_ (by simp <;> omega) _ | refine Below.th ?_ (by assumption)))⟩
  · rw [h1, eArg] at K1
    cases h2 : stOk n l h
    all_goals
      rw [h2, eArg] at K2
      go_enter Try.func34, Try.ntmps34
      have B1 : Box ((w.alloc (.cells #[.int .i64 m.d, .slice A0 m.a.length c0, .slice A1 m.b.length c1] 25)).alloc (.cells #[.int .i64 n, .int .i64 l, .int .i64 h] 27)) (w.heap.size + 1) [.int .i64 n, .int .i64 l, .int .i64 h] := by simpa using Box.fresh (w.alloc (.cells #[.int .i64 m.d, .slice A0 m.a.length c0, .slice A1 m.b.length c1] 25)) #[.int .i64 n, .int .i64 l, .int .i64 h] 27 (0, 0)
      go_wp2_with fail
      refine (K1.out _ (T.out.1 _ _) (T.out.2 _ _)).mono ?_
      rintro e w' ⟨rfl, zb⟩
      have B1 := B1.below zb
      have b0 := B1.at_ 0 (by simp)
      have b1 := B1.at_ 1 (by simp)
      have b2 := B1.at_ 2 (by simp)
      simp at b0 b1 b2
      have zl := B1.lt
      clear B1 T
      go_wp2_with fail
      refine (K2.out _).mono ?_
      rintro e w2 ⟨rfl, zb2⟩
      go_wp2
      go_ret
      exact ⟨ret_bool (by simp), (by repeat (with_reducible first | exact Below.refl _ _ | assumption | refine Below.al ?_ _ | refine Below.dr ?_ | refine Below.drn ?_ _ | refine Below.sc ?_ (by simp <;> omega) _ | refine Below.th ?_ (by assumption)))⟩
end Go.Proofs.Ytjbgdpbeabakiaa
