/- Chapter 11: contract of skip.Styles. -/
import Derived.Test.YtjbgdpbeabakiaaKD
import Derived.Test.YtjbgdpbeabakiaaKL
import Derived.Deep.DeepCutAuto
namespace Go.Proofs.Ytjbgdpbeabakiaa
open Go.RowKit Go.Shelf
set_option linter.unusedVariables false
set_option linter.unusedSimpArgs false
structure StyR where
  L : List (Int × Int)
  at_ : Nat
  sure : Bool
  er : Int
def stylesL (m : Riv) (n : Nat) (l h : Int) : List (Int × Int) := stylesH m n h (rowH (stepH m n l h))
theorem stylesL_len (m : Riv) (n : Nat) (l h : Int) : (stylesL m n l h).length = (m.st h).length := stylesH_len _ _ _ _
/-- is a hope x surely not better than y? -/
def beatenB (h : Int) (x y : Int × Int) : Bool := if h = 1 then decide (y.2 ≤ x.1) else decide (x.2 ≤ y.1)
def surelyB (h : Int) (L : List (Int × Int)) (at_ : Nat) : Nat → Bool
  | 0 => true
  | k + 1 => surelyB h L at_ k && (decide (k = at_) || beatenB h (L.getD k (0, 0)) (L.getD at_ (0, 0)))
theorem surelyB_succ (h : Int) (L : List (Int × Int)) (at_ k : Nat) (hk : k < L.length) (ha : at_ < L.length) : surelyB h L at_ (k + 1) = (surelyB h L at_ k && (decide (k = at_) || beatenB h L[k] L[at_])) := by
  simp [surelyB, hk, ha]
theorem dec_nat (a b : Nat) : decide (a = b) = decide ((a : Int) = (b : Int)) := by
  by_cases h : a = b
  · simp [h]
  · have : ¬ (a : Int) = b := by omega
    simp [h, this]
def bestI (h : Int) (L : List (Int × Int)) : Nat := firstI (betH h) L L.length
def stylesR (m : Riv) (n l h : Int) : StyR :=
  if rivOk m && stOk n l h then
    if n = 0 ∧ l ≠ 0 then ⟨[], 0, false, 9⟩ else ⟨stylesL m n.toNat l h, bestI h (stylesL m n.toNat l h), surelyB h (stylesL m n.toNat l h) (bestI h (stylesL m n.toNat l h)) (stylesL m n.toNat l h).length, 0⟩
  else ⟨[], 0, false, 2⟩
def StylesRet (s : StyR) (w : World) (e : Ending) (w' : World) : Prop :=
  ∃ A c, e = .returned (.tuple #[.slice A s.L.length c, .int .i64 s.at_, .bool s.sure, .int .i64 s.er]) ∧ Arr w' A (hopes s.L) ∧ s.L.length ≤ c ∧ c ≤ 9223372036854775807 ∧ Below w.heap.size w w'
set_option maxHeartbeats 4000000 in
set_option maxRecDepth 100000 in
theorem Styles_no (A0 A1 : Option Addr) (c0 c1 : Nat) (m : Riv) (n l h : Int) (w : World) (ha : Args w A0 A1 m) (hb : (rivOk m && stOk n l h) = false ∨ ((rivOk m && stOk n l h) = true ∧ n = 0 ∧ l ≠ 0)) :
    Calls Try.prog 21 #[rivV m A0 A1 c0 c1, .agg #[.int .i64 n, .int .i64 l, .int .i64 h]] w (StylesRet (stylesR m n l h) w) := by
  have K1 := Aside.mk (fun w (ha : Args w A0 A1 m) => right_c A0 A1 c0 c1 m n l h w ha.ra ha.rb ha.sa ha.sb ha.la ha.lb)
  have HB0 : Below w.heap.size w ((w.alloc (.cells #[.int .i64 m.d, .slice A0 m.a.length c0, .slice A1 m.b.length c1] 25)).alloc (.cells #[.int .i64 n, .int .i64 l, .int .i64 h] 27)) := (by repeat (with_reducible first | exact Below.refl _ _ | assumption | refine Below.al ?_ _ | refine Below.dr ?_ | refine Below.drn ?_ _ | refine Below.sc ?_ (by simp <;> omega) _ | refine Below.th ?_ (by assumption)))
  have X1 : Blk ((w.alloc (.cells #[.int .i64 m.d, .slice A0 m.a.length c0, .slice A1 m.b.length c1] 25)).alloc (.cells #[.int .i64 n, .int .i64 l, .int .i64 h] 27)) (w.heap.size + 1) #[.int .i64 n, .int .i64 l, .int .i64 h] 27 := Blk.fresh' (by simp)
  have HA := ha.be HB0
  unfold rivV at *
  clear ha
  rcases hb with e1 | ⟨e1, rfl, hl0⟩
  · rw [e1] at K1
    have HE := Lib.hid (show stylesR m n l h = ⟨[], 0, false, 2⟩ by simp only [stylesR]; rw [e1]; rfl)
    go_enter Try.func21, Try.ntmps21
    go_wp2_with fail
    generalize (w.alloc (.cells #[.int .i64 m.d, .slice A0 m.a.length c0, .slice A1 m.b.length c1] 25)).alloc (.cells #[.int .i64 n, .int .i64 l, .int .i64 h] 27) = v at *
    refine (K1.out _ HA).mono ?_
    rintro e w' ⟨rfl, zb⟩
    have hB1 := Below.th HB0 zb
    clear HA zb X1 HB0 e1
    go_wp2
    refine bodyPost_ret (v := .tuple #[.slice none 0 0, .int .i64 0, .bool false, .int .i64 2]) (by simp [results, Try.results21, go_sem]) rfl ?_
    rw [HE.out]
    exact ⟨none, 0, rfl, .inl rfl, by simp, by omega, hB1⟩
  · rw [e1] at K1
    have HE := Lib.hid (show stylesR m 0 l h = ⟨[], 0, false, 9⟩ by simp only [stylesR]; rw [e1, if_pos (by rfl), if_pos (by simp [hl0])])
    go_enter Try.func21, Try.ntmps21
    go_wp2_with fail
    generalize (w.alloc (.cells #[.int .i64 m.d, .slice A0 m.a.length c0, .slice A1 m.b.length c1] 25)).alloc (.cells #[.int .i64 0, .int .i64 l, .int .i64 h] 27) = v at *
    refine (K1.out _ HA).mono ?_
    rintro e w' ⟨rfl, zb⟩
    have X1 := X1.be zb
    have y0 : w'.cell? ⟨w.heap.size + 1, 0, none⟩ = some (.int .i64 0) := by rw [X1.cell]; rfl
    have y1 : w'.cell? ⟨w.heap.size + 1, 1, none⟩ = some (.int .i64 l) := by rw [X1.cell]; rfl
    have hB1 := Below.th HB0 zb
    clear HA zb X1 HB0 e1
    go_wp2
    refine bodyPost_ret (v := .tuple #[.slice none 0 0, .int .i64 0, .bool false, .int .i64 9]) (by simp [results, Try.results21, go_sem]) rfl ?_
    rw [HE.out]
    exact ⟨none, 0, rfl, .inl rfl, by simp, by omega, hB1⟩
/-- what the reckoning leaves -/
def StylesMid (N : Nat) (L : List (Int × Int)) (w : World) (h : Int) (s4 : Value) (wx : World) : Prop :=
  ∃ A c k l, s4 = .slice A N c ∧ Arr wx A (hopes L) ∧ N ≤ c ∧ c ≤ 9223372036854775807 ∧ Below w.heap.size w wx ∧ Blk wx (w.heap.size + 1) #[k, l, .int .i64 h] 27
set_option maxHeartbeats 8000000 in
set_option maxRecDepth 100000 in
theorem Styles_yes (A0 A1 : Option Addr) (c0 c1 : Nat) (m : Riv) (n : Int) (k : Nat) (hn : n = k) (l h : Int) (w : World) (ha : Args w A0 A1 m) (em : rivOk m = true) (k12 : k ≤ 12) (l0 : -96 ≤ l) (l1 : l ≤ 96) (hh : h = 0 ∨ h = 1) (hkl : (n = 0 ∧ l = 0) ∨ ¬ n = 0) :
    Calls Try.prog 21 #[rivV m A0 A1 c0 c1, .agg #[.int .i64 n, .int .i64 l, .int .i64 h]] w (StylesRet (stylesR m n l h) w) := by
  have es : stOk n l h = true := by simp only [stOk, Bool.and_eq_true, inR_iff]; omega
  have K1 := Aside.mk (fun w (ha : Args w A0 A1 m) => right_c A0 A1 c0 c1 m n l h w ha.ra ha.rb ha.sa ha.sb ha.la ha.lb)
  rw [em, es] at K1
  have K2 := Aside.mk (fun w (ha : Args w A0 A1 m) => reckon_c A0 A1 c0 c1 m w ha.ra ha.rb)
  have KS : Aside (∀ (R : Rp) (w : World), Rk m R w → Calls Try.prog 36 #[.pointer (some ⟨R.rb, 0, none⟩), .agg #[.int .i64 n, .int .i64 l, .int .i64 h]] w (StylesPost m R k l h w)) := ⟨fun R w hk => by
    subst hn
    rcases hh with rfl | rfl
    · exact styles_c0 m em R k l w k12 l0 l1 (fun j hj => hope_ok m em R j (by omega)) hk
    · exact styles_c1 m em R k l w k12 l0 l1 (fun j hj => hope_ok m em R j (by omega)) hk⟩
  have HE := Lib.hid (show stylesR m n l h = ⟨stylesL m k l h, bestI h (stylesL m k l h), surelyB h (stylesL m k l h) (bestI h (stylesL m k l h)) (stylesL m k l h).length, 0⟩ by
    simp only [stylesR, em, es]; rw [if_pos (by rfl), if_neg (by omega), show n.toNat = k by omega])
  obtain ⟨hn8, hst, d1, d2⟩ := rivOk_st em h
  have HLEN := stylesL_len m k l h
  have HP : ∀ (R : Rp) (w : World) (e : Ending) (w' : World), StylesPost m R k l h w e w' → ∃ A c, e = .returned (.slice A (stylesL m k l h).length c) ∧ Arr w' A (hopes (stylesL m k l h)) ∧ Kept R.mb w w' ∧ Rk m R w' ∧ (stylesL m k l h).length ≤ c ∧ c ≤ 9223372036854775807 := by
    intro R w e w' hp
    unfold StylesPost at hp
    rw [HLEN]; exact hp
  have KS : Aside (∀ (R : Rp) (w : World), Rk m R w → Calls Try.prog 36 #[.pointer (some ⟨R.rb, 0, none⟩), .agg #[.int .i64 n, .int .i64 l, .int .i64 h]] w fun e w' => ∃ A c, e = .returned (.slice A (stylesL m k l h).length c) ∧ Arr w' A (hopes (stylesL m k l h)) ∧ Kept R.mb w w' ∧ Rk m R w' ∧ (stylesL m k l h).length ≤ c ∧ c ≤ 9223372036854775807) := ⟨fun R w hk => (KS.out R w hk).mono fun e w' hp => HP R w e w' hp⟩
  have hL1 : 1 ≤ (stylesL m k l h).length ∧ (stylesL m k l h).length ≤ 8 := by rw [HLEN]; omega
  clear HP HLEN hst d1 d2 hn8 em es hn k12
  generalize stylesL m k l h = L at *
  have HB0 : Below w.heap.size w ((w.alloc (.cells #[.int .i64 m.d, .slice A0 m.a.length c0, .slice A1 m.b.length c1] 25)).alloc (.cells #[.int .i64 n, .int .i64 l, .int .i64 h] 27)) := (by repeat (with_reducible first | exact Below.refl _ _ | assumption | refine Below.al ?_ _ | refine Below.dr ?_ | refine Below.drn ?_ _ | refine Below.sc ?_ (by simp <;> omega) _ | refine Below.th ?_ (by assumption)))
  have X0 : Blk ((w.alloc (.cells #[.int .i64 m.d, .slice A0 m.a.length c0, .slice A1 m.b.length c1] 25)).alloc (.cells #[.int .i64 n, .int .i64 l, .int .i64 h] 27)) w.heap.size #[.int .i64 m.d, .slice A0 m.a.length c0, .slice A1 m.b.length c1] 25 := (Blk.fresh _ _ _).al _
  have X1 : Blk ((w.alloc (.cells #[.int .i64 m.d, .slice A0 m.a.length c0, .slice A1 m.b.length c1] 25)).alloc (.cells #[.int .i64 n, .int .i64 l, .int .i64 h] 27)) (w.heap.size + 1) #[.int .i64 n, .int .i64 l, .int .i64 h] 27 := Blk.fresh' (by simp)
  have HA := ha.be HB0
  unfold rivV at *
  have HHH := Lib.hid hh
  clear ha hh
  go_enter Try.func21, Try.ntmps21
  go_wp2_with fail
  generalize (w.alloc (.cells #[.int .i64 m.d, .slice A0 m.a.length c0, .slice A1 m.b.length c1] 25)).alloc (.cells #[.int .i64 n, .int .i64 l, .int .i64 h] 27) = v at *
  refine (K1.out _ HA).mono ?_
  rintro e w' ⟨rfl, zb⟩
  have X0 := X0.be zb
  have X1 := X1.be zb
  have HA := HA.be zb
  have HA2 := Aside.mk HA
  have hB1 := Below.th HB0 zb
  have x0 : w'.cell? ⟨w.heap.size, 0, none⟩ = some (.int .i64 m.d) := by rw [X0.cell]; rfl
  have x1 : w'.cell? ⟨w.heap.size, 1, none⟩ = some (.slice A0 m.a.length c0) := by rw [X0.cell]; rfl
  have x2 : w'.cell? ⟨w.heap.size, 2, none⟩ = some (.slice A1 m.b.length c1) := by rw [X0.cell]; rfl
  have y0 : w'.cell? ⟨w.heap.size + 1, 0, none⟩ = some (.int .i64 n) := by rw [X1.cell]; rfl
  have y1 : w'.cell? ⟨w.heap.size + 1, 1, none⟩ = some (.int .i64 l) := by rw [X1.cell]; rfl
  have y2 : w'.cell? ⟨w.heap.size + 1, 2, none⟩ = some (.int .i64 h) := by rw [X1.cell]; rfl
  clear zb HB0 HA
  have hw1 := hB1.size
  have K2' := Aside.mk (show Calls Try.prog 35 #[.agg #[.int .i64 m.d, .slice A0 m.a.length c0, .slice A1 m.b.length c1]] w'.drew fun e wn => e = .returned (.pointer (some ⟨w'.heap.size + 1, 0, none⟩)) ∧ Rk m (rpOf w'.heap.size A0 A1 c0 c1) wn ∧ Below w'.heap.size w'.drew wn from K2.out _ (HA2.out.be (Below.dr (Below.refl _ _))))
  have KS1 := Aside.mk (fun (W : World) (hk : Rk m (rpOf w'.heap.size A0 A1 c0 c1) W) => show Calls Try.prog 36 #[.pointer (some ⟨w'.heap.size + 1, 0, none⟩), .agg #[.int .i64 n, .int .i64 l, .int .i64 h]] W fun e w2 => ∃ A c, e = .returned (.slice A L.length c) ∧ Arr w2 A (hopes L) ∧ Kept (w'.heap.size + 3) W w2 ∧ Rk m (rpOf w'.heap.size A0 A1 c0 c1) w2 ∧ L.length ≤ c ∧ c ≤ 9223372036854775807 from KS.out _ W hk)
  clear K1 K2 KS
  rcases hkl with ⟨rfl, rfl⟩ | hk0
  all_goals
    go_upto_region 5 with fail
    go_cut [4] (fun s4 wx => StylesMid L.length L w h s4 wx)
    case first =>
      clear HE hL1
      go_region_with (first
        | (go_at_call 35; (with_reducible refine K2'.out.mono ?_); rintro e wn ⟨rfl, hkn, zbn⟩; have Y1 := X1.dr.be zbn; have z0 := (Y1.cell 0).trans (show _ = some (.int .i64 _) from rfl); have z1 := (Y1.cell 1).trans (show _ = some (.int .i64 _) from rfl); have z2 : wn.cell? ⟨w.heap.size + 1, 2, none⟩ = some (.int .i64 h) := (by rw [Y1.cell]; rfl))
        | (go_at_call 36; (with_reducible refine (KS1.out _ hkn).mono ?_); rintro e wh ⟨A, c, rfl, har, hkep, hkk, hc1, hc2⟩; have Z1 := Y1.kept hkep (by simp [rpOf]; omega))
        | fail)
      all_goals
        have hBn : Below w.heap.size w wn := Below.th (Below.dr hB1) zbn
        have hBh : Below w.heap.size w wh := hBn.trans (hkep.below (by have := hB1.size; simp [rpOf]; omega) hBn.size)
        go_wp2_with fail
        go_meet
        exact ⟨A, c, _, _, rfl, har, hc1, hc2, hBh, Z1⟩
    case rest =>
      obtain ⟨A, c, _, _, rfl, har, hc1, hc2, HB, XS⟩ := hcut
      have KB := Aside.mk (fun w hr => best_c A c L h w hr (by omega) hL1.1 HHH.out)
      have s2 := (XS.cell 2).trans (show _ = some (.int .i64 h) from rfl)
      clear x0 x1 x2 y0 y1 y2 X0 X1 hB1 K2' KS1 HA2
      go_wp2_with fail
      refine (KB.out _ har).mono ?_
      rintro e v2 ⟨rfl, zb⟩
      have har := har.below zb
      have XS := XS.be zb
      have HB := Below.th HB zb
      clear s2 zb KB
      have hat := firstI_lt (betH h) L hL1.1 L.length (Nat.le_refl _)
      have HE : Hid (stylesR m _ _ h = ⟨L, firstI (betH h) L L.length, surelyB h L (firstI (betH h) L L.length) L.length, 0⟩) := HE
      generalize firstI (betH h) L L.length = at_ at *
      go_wp2_with fail
      go_loopw [6, 35] (fun t i wr => ∃ j : Nat, j ≤ L.length ∧ i = .int .i64 j ∧ t = .bool (surelyB h L at_ j) ∧ Below v2.heap.size v2 wr) (fun _ i _ => L.length - (intOf i).toNat)
      case atStart => exact ⟨0, by omega, rfl, rfl, Below.refl _ _⟩
      case round =>
        obtain ⟨j, hj, rfl, rfl, hB⟩ := hrel
        have XR := XS.be hB
        have s2 := (XR.cell 2).trans (show _ = some (.int .i64 h) from rfl)
        by_cases hlt : j < L.length
        · have HS := Lib.hid (surelyB_succ h L at_ j hlt hat)
          obtain ⟨b, o, hA, hb, hcx, hcy⟩ := hopes_at (har.below hB) hlt
          obtain ⟨b', o', hA', hb', hdx, hdy⟩ := hopes_at (har.below hB) hat
          obtain ⟨rfl, rfl⟩ : b = b' ∧ o = o' := by rw [hA] at hA'; simpa using hA'
          subst hA
          clear hA'
          generalize L[j] = x at *
          generalize L[at_] = y at *
          generalize surelyB h L at_ j = t at *
          have hne : ¬ b = wr.heap.size ∧ ¬ wr.heap.size = b := by omega
          have hxs := XR.lt
          have hne2 : ¬ wr.heap.size = w.heap.size + 1 := by omega
          rcases HHH.out with rfl | rfl
          · by_cases hq : x.2 ≤ y.1
            all_goals
              go_wp2_with fail
              go_quiet (fail)
              go_wp2_with fail
              cases t
              all_goals
                by_cases hja : (j : Int) = at_
                all_goals
                  have hja2 := dec_nat j at_
                  have HQ := Lib.hid (And.intro hja2 (And.intro hja hq))
                  clear hja2
                  go_wp2
                  go_roundw
                  case rel => exact ⟨j + 1, by omega, by go_num, by rw [HS.out]; obtain ⟨q1, q2, q3⟩ := HQ.out; rw [q1]; first | (simp [beatenB, q2, q3]; done) | (simp [beatenB, q2, q3, *]; done) | (exfalso; simp_all; done) | (exfalso; omega), (by repeat (with_reducible first | exact Below.refl _ _ | assumption | refine Below.al ?_ _ | refine Below.dr ?_ | refine Below.drn ?_ _ | refine Below.sc ?_ (by simp <;> omega) _ | refine Below.th ?_ (by assumption)))⟩
                  case measure => simp [intOf]; omega
          · by_cases hq : y.2 ≤ x.1
            all_goals
              by_cases hq' : x.2 ≤ y.1
              all_goals
                go_wp2_with fail
                go_quiet (fail)
                go_wp2_with fail
                go_quiet (fail)
                go_wp2_with fail
                cases t
                all_goals
                  by_cases hja : (j : Int) = at_
                  all_goals
                    have hja2 := dec_nat j at_
                    have HQ := Lib.hid (And.intro hja2 (And.intro hja hq))
                    clear hja2
                    go_wp2
                    go_roundw
                    case rel => exact ⟨j + 1, by omega, by go_num, by rw [HS.out]; obtain ⟨q1, q2, q3⟩ := HQ.out; rw [q1]; first | (simp [beatenB, q2, q3]; done) | (simp [beatenB, q2, q3, *]; done) | (exfalso; simp_all; done) | (exfalso; omega), (by repeat (with_reducible first | exact Below.refl _ _ | assumption | refine Below.al ?_ _ | refine Below.dr ?_ | refine Below.drn ?_ _ | refine Below.sc ?_ (by simp <;> omega) _ | refine Below.th ?_ (by assumption)))⟩
                    case measure => simp [intOf]; omega
        · obtain rfl : j = L.length := by omega
          have HBR := Below.th HB hB
          have har' := har.below hB
          go_wp2
          refine bodyPost_ret (v := .tuple #[.slice A L.length c, .int .i64 at_, .bool (surelyB h L at_ L.length), .int .i64 0]) (by simp [results, Try.results21, go_sem]) rfl ?_
          rw [HE.out]
          exact ⟨A, c, rfl, har', hc1, hc2, HBR⟩
theorem Styles_c (A0 A1 : Option Addr) (c0 c1 : Nat) (m : Riv) (n l h : Int) (w : World) (ha : Args w A0 A1 m) :
    Calls Try.prog 21 #[rivV m A0 A1 c0 c1, .agg #[.int .i64 n, .int .i64 l, .int .i64 h]] w (StylesRet (stylesR m n l h) w) := by
  cases e1 : rivOk m && stOk n l h
  · exact Styles_no A0 A1 c0 c1 m n l h w ha (.inl e1)
  · by_cases hn : n = 0 ∧ l ≠ 0
    · exact Styles_no A0 A1 c0 c1 m n l h w ha (.inr ⟨e1, hn⟩)
    · rw [Bool.and_eq_true] at e1
      obtain ⟨⟨n0, n1⟩, ⟨l0, l1⟩, hh⟩ := stOk_iff e1.2
      obtain ⟨k, rfl⟩ : ∃ k : Nat, n = k := ⟨n.toNat, by omega⟩
      exact Styles_yes A0 A1 c0 c1 m k k rfl l h w ha e1.1 (by omega) l0 l1 hh (by omega)
end Go.Proofs.Ytjbgdpbeabakiaa
