/- Chapter 11: contract of the asking of a state's hope, by induction on the ends left. -/
import Derived.Test.YtjbgdpbeabakiaaKA
namespace Go.Proofs.Ytjbgdpbeabakiaa
open Go.RowKit Go.Shelf
set_option linter.unusedVariables false
set_option linter.unusedSimpArgs false
theorem zero_hope (w : World) : (zeroValue 43).run Try.prog w = .ok (.agg #[.int .i64 0, .int .i64 0]) w := by kernel_rfl
set_option maxHeartbeats 1000000 in
theorem hope_end (m : Riv) (R : Rp) (l h : Int) (w : World) (hl : ¬ l = 0) (hk : Rk m R w) :
    Calls Try.prog 42 #[.agg #[.int .i64 0, .int .i64 l, .int .i64 h], .pointer (some ⟨R.kv, 0, none⟩), .pointer (some ⟨R.rv, 0, none⟩)] w (HopePost m R 0 l h w) := by
  have HP := Aside.mk (hopeH_end m l h hl)
  have HK := Aside.mk hk
  have h2 : (l != 0) = true := by simpa using hl
  have X1 : Blk ((w.alloc (.cells #[.int .i64 0, .int .i64 l, .int .i64 h] 27)).alloc (.cells #[.int .i64 0, .int .i64 0] 43)) (w.heap.size + 1) #[.int .i64 0, .int .i64 0] 43 := Blk.fresh' (by simp)
  have hB0 : Below w.heap.size w ((w.alloc (.cells #[.int .i64 0, .int .i64 l, .int .i64 h] 27)).alloc (.cells #[.int .i64 0, .int .i64 0] 43)) := (by repeat (with_reducible first | exact Below.refl _ _ | assumption | refine Below.al ?_ _ | refine Below.dr ?_ | refine Below.drn ?_ _ | refine Below.sc ?_ (by simp <;> omega) _ | refine Below.th ?_ (by assumption)))
  by_cases hp : 0 < l
  all_goals
    have HQ := Lib.hid (show decide (0 < l) = _ from by first | exact decide_eq_true hp | exact decide_eq_false hp)
    go_enter Try.func42, Try.ntmps42
    go_wp2_with fail
    generalize (w.alloc (.cells #[.int .i64 0, .int .i64 l, .int .i64 h] 27)).alloc (.cells #[.int .i64 0, .int .i64 0] 43) = v at *
    refine (sure_c _ _).mono ?_
    rintro e w' ⟨rfl, zb⟩
    have X := X1.be zb
    have x0 : w'.cell? ⟨w.heap.size + 1, 0, none⟩ = some (.int .i64 0) := by rw [X.cell]; rfl
    have x1 : w'.cell? ⟨w.heap.size + 1, 1, none⟩ = some (.int .i64 0) := by rw [X.cell]; rfl
    have f0 := X.frozen 0
    have f1 := X.frozen 1
    have hB1 : Below w.heap.size w w' := Below.th hB0 zb
    clear hB0 zb hk
    generalize hy : sureH _ = y
    have HY := Lib.hid hy
    clear hy
    go_wp2
    refine bodyPost_ret (v := .agg #[.int .i64 y.1, .int .i64 y.2]) (by simp [x0, x1, results, Try.results42, go_sem]) rfl ?_
    have hb : Below w.heap.size w ((w'.setCell ⟨w.heap.size + 1, 0, none⟩ (.int .i64 y.1)).setCell ⟨w.heap.size + 1, 1, none⟩ (.int .i64 y.2)) := (by repeat (with_reducible first | exact Below.refl _ _ | assumption | refine Below.al ?_ _ | refine Below.dr ?_ | refine Below.drn ?_ _ | refine Below.sc ?_ (by simp <;> omega) _ | refine Below.th ?_ (by assumption)))
    exact ⟨by rw [hopeVal, HP.out, ← HY.out]; rw [HQ.out], Kept.of hb, HK.out.be hb⟩
set_option maxHeartbeats 2000000 in
set_option maxRecDepth 100000 in
theorem hope_go (m : Riv) (hm : rivOk m = true) (R : Rp) (n : Nat) (l h : Int) (w : World) (n12 : n ≤ 12) (l0 : -96 ≤ l) (l1 : l ≤ 96) (hh : h = 0 ∨ h = 1) (hz : n ≠ 0 ∨ l = 0) (IH : ∀ k, n = k + 1 → HopeOk m R k) (hk : Rk m R w) :
    Calls Try.prog 42 #[.agg #[.int .i64 n, .int .i64 l, .int .i64 h], .pointer (some ⟨R.kv, 0, none⟩), .pointer (some ⟨R.rv, 0, none⟩)] w (HopePost m R n l h w) := by
  have HP := Aside.mk (hopeH_eq m n l h hz)
  have hd : (((n : Int) == 0) = true ∧ (l != 0) = false) ∨ ((n : Int) == 0) = false := by
    by_cases hn : n = 0
    · left; simp [hn] at hz; simp [hn, hz]
    · right; simp [hn]
  have HB1 : Below w.heap.size w ((w.alloc (.cells #[.int .i64 n, .int .i64 l, .int .i64 h] 27)).alloc (.cells #[.int .i64 0, .int .i64 0] 43)) := (by repeat (with_reducible first | exact Below.refl _ _ | assumption | refine Below.al ?_ _ | refine Below.dr ?_ | refine Below.drn ?_ _ | refine Below.sc ?_ (by simp <;> omega) _ | refine Below.th ?_ (by assumption)))
  have X0 : Blk ((w.alloc (.cells #[.int .i64 n, .int .i64 l, .int .i64 h] 27)).alloc (.cells #[.int .i64 0, .int .i64 0] 43)) w.heap.size #[.int .i64 n, .int .i64 l, .int .i64 h] 27 := (Blk.fresh _ _ _).al _
  have X1 : Blk ((w.alloc (.cells #[.int .i64 n, .int .i64 l, .int .i64 h] 27)).alloc (.cells #[.int .i64 0, .int .i64 0] 43)) (w.heap.size + 1) #[.int .i64 0, .int .i64 0] 43 := Blk.fresh' (by simp)
  have hk1 := hk.be HB1
  have hmb := hk.memo.lt
  obtain ⟨v, ok, hlk, hyes, hno⟩ := hk1.memo.lookup_ok states Try.underlying82 zero_hope ((n : Int), l, h)
  simp only [encS] at hlk
  have c1 : w.cell? ⟨R.kv, 0, none⟩ = some (.map (some R.mb)) := by rw [hk.k.cell]; rfl
  have c2 : w.cell? ⟨R.rv, 0, none⟩ = some (.pointer (some ⟨R.rb, 0, none⟩)) := by rw [hk.v.cell]; rfl
  obtain ⟨t1, t2, t3, t4⟩ := hk.lts
  have t5 : R.rv < w.heap.size + 1 := by omega
  have t6 : R.rv < w.heap.size + 1 + 1 := by omega
  have HK := Aside.mk hk
  have HS : Aside (∀ w, Rk m R w → Calls Try.prog 36 #[.pointer (some ⟨R.rb, 0, none⟩), .agg #[.int .i64 n, .int .i64 l, .int .i64 h]] w (StylesPost m R n l h w)) := ⟨fun w hk => by
    rcases hh with rfl | rfl
    · exact styles_c0 m hm R n l w n12 l0 l1 IH hk
    · exact styles_c1 m hm R n l w n12 l0 l1 IH hk⟩
  have HC : Aside (∀ A c w, Arr w A (hopes (stylesH m n h (rowH (stepH m n l h)))) → (m.st h).length ≤ c → c ≤ 9223372036854775807 → Calls Try.prog 44 #[.slice A (m.st h).length c, .int .i64 h] w fun e w' => e = .returned (.agg #[.int .i64 (hopeH m n l h).1, .int .i64 (hopeH m n l h).2]) ∧ Below w.heap.size w w') := ⟨fun A c w ha h1 h2 => by
    have hr := (rivOk_st hm h).1
    have := chosen_c A c (stylesH m n h (rowH (stepH m n l h))) h w ha (by rw [stylesH_len]; omega) (by rw [stylesH_len]; omega) (by rw [stylesH_len]; omega) h2 hh
    rw [stylesH_len, ← HP.out] at this
    exact this⟩
  have HM := Aside.mk hm
  have HK1 := Aside.mk hk1
  clear hz hm IH hk hk1 hh HP
  cases ok
  · obtain rfl := hno rfl
    clear hyes hno
    rcases hd with ⟨d1, d2⟩ | d1
    all_goals
      go_enter Try.func42, Try.ntmps42
      go_wp2_with fail
      have HB3 : Below w.heap.size w (((w.alloc (.cells #[.int .i64 n, .int .i64 l, .int .i64 h] 27)).alloc (.cells #[.int .i64 0, .int .i64 0] 43)).alloc (.cells #[.int .i64 0, .int .i64 0] 43)) := (by repeat (with_reducible first | exact Below.refl _ _ | assumption | refine Below.al ?_ _ | refine Below.dr ?_ | refine Below.drn ?_ _ | refine Below.sc ?_ (by simp <;> omega) _ | refine Below.th ?_ (by assumption)))
      have Y0 := X0.al (.cells #[.int .i64 0, .int .i64 0] 43)
      have Y1 := X1.al (.cells #[.int .i64 0, .int .i64 0] 43)
      have Y2 : Blk (((w.alloc (.cells #[.int .i64 n, .int .i64 l, .int .i64 h] 27)).alloc (.cells #[.int .i64 0, .int .i64 0] 43)).alloc (.cells #[.int .i64 0, .int .i64 0] 43)) (w.heap.size + 1 + 1) #[.int .i64 0, .int .i64 0] 43 := Blk.fresh' (by simp)
      have HK3 := HK.out.be HB3
      clear X0 X1 HB1 HK1 hlk
      generalize ((w.alloc (.cells #[.int .i64 n, .int .i64 l, .int .i64 h] 27)).alloc (.cells #[.int .i64 0, .int .i64 0] 43)).alloc (.cells #[.int .i64 0, .int .i64 0] 43) = v3 at *
      refine (HS.out _ HK3).mono ?_
      rintro e v4 ⟨A, c, rfl, hA, hkep, hk4, q1, q2⟩
      have KP : Kept R.mb w v4 := (Kept.of HB3).th hkep
      have Y0 := Y0.kept hkep (by omega)
      have Y1 := Y1.kept hkep (by omega)
      have Y2 := Y2.kept hkep (by omega)
      have y2 : v4.cell? ⟨w.heap.size, 2, none⟩ = some (.int .i64 h) := by rw [Y0.cell]; rfl
      clear HK3 hkep HB3
      go_wp2_with fail
      refine (HC.out A c _ hA q1 q2).mono ?_
      rintro e v5 ⟨rfl, zb⟩
      have KP := KP.be zb
      have Y0 := Y0.be zb
      have Y1 := Y1.be zb
      have Y2 := Y2.be zb
      have HK5 := Aside.mk (hk4.be zb)
      clear y2 zb hA hk4 HS HC
      have l5 := Y2.lt
      generalize hyy : hopeH m n l h = y at *
      have y0 : v5.cell? ⟨w.heap.size + 1 + 1, 0, none⟩ = some (.int .i64 0) := by rw [Y2.cell]; rfl
      have y1 : v5.cell? ⟨w.heap.size + 1 + 1, 1, none⟩ = some (.int .i64 0) := by rw [Y2.cell]; rfl
      have f0 := Y2.frozen 0
      have f1 := Y2.frozen 1
      have HB6 : Below w.heap.size v5 ((v5.setCell ⟨w.heap.size + 1 + 1, 0, none⟩ (.int .i64 y.1)).setCell ⟨w.heap.size + 1 + 1, 1, none⟩ (.int .i64 y.2)) := ((Below.refl _ _).setCell (by show w.heap.size ≤ w.heap.size + 1 + 1; omega) _).setCell (by show w.heap.size ≤ w.heap.size + 1 + 1; omega) _
      have KP := KP.bel HB6
      have HK6 := HK5.out.bel HB6 ⟨t1, t2, t3, t4⟩
      have Z0 := (Y0.other ⟨w.heap.size + 1 + 1, 0, none⟩ (.int .i64 y.1) (by simp; omega)).other ⟨w.heap.size + 1 + 1, 1, none⟩ (.int .i64 y.2) (by simp; omega)
      have Z1 := (Y1.other ⟨w.heap.size + 1 + 1, 0, none⟩ (.int .i64 y.1) (by simp)).other ⟨w.heap.size + 1 + 1, 1, none⟩ (.int .i64 y.2) (by simp)
      have Z2 : Blk ((v5.setCell ⟨w.heap.size + 1 + 1, 0, none⟩ (.int .i64 y.1)).setCell ⟨w.heap.size + 1 + 1, 1, none⟩ (.int .i64 y.2)) (w.heap.size + 1 + 1) #[.int .i64 y.1, .int .i64 y.2] 43 := by simpa using (Y2.set 0 (.int .i64 y.1)).set 1 (.int .i64 y.2)
      obtain ⟨v7, hrun, hmemo, hgr⟩ := HK6.memo.store states (stays_S _) Try.underlying82 ((n : Int), l, h) (hopeVal y) (by simp only [Qm, Int.toNat_natCast, hyy])
      simp only [encS, hopeVal] at hrun
      have HK7 := HK6.kept hgr hmemo
      have KP := KP.th hgr
      have k6 : ((v5.setCell ⟨w.heap.size + 1 + 1, 0, none⟩ (.int .i64 y.1)).setCell ⟨w.heap.size + 1 + 1, 1, none⟩ (.int .i64 y.2)).cell? ⟨R.kv, 0, none⟩ = some (.map (some R.mb)) := by rw [HK6.k.cell]; rfl
      have z0 : ((v5.setCell ⟨w.heap.size + 1 + 1, 0, none⟩ (.int .i64 y.1)).setCell ⟨w.heap.size + 1 + 1, 1, none⟩ (.int .i64 y.2)).cell? ⟨w.heap.size, 0, none⟩ = some (.int .i64 n) := by rw [Z0.cell]; rfl
      have z1 : ((v5.setCell ⟨w.heap.size + 1 + 1, 0, none⟩ (.int .i64 y.1)).setCell ⟨w.heap.size + 1 + 1, 1, none⟩ (.int .i64 y.2)).cell? ⟨w.heap.size, 1, none⟩ = some (.int .i64 l) := by rw [Z0.cell]; rfl
      have z2 : ((v5.setCell ⟨w.heap.size + 1 + 1, 0, none⟩ (.int .i64 y.1)).setCell ⟨w.heap.size + 1 + 1, 1, none⟩ (.int .i64 y.2)).cell? ⟨w.heap.size, 2, none⟩ = some (.int .i64 h) := by rw [Z0.cell]; rfl
      have z3 : ((v5.setCell ⟨w.heap.size + 1 + 1, 0, none⟩ (.int .i64 y.1)).setCell ⟨w.heap.size + 1 + 1, 1, none⟩ (.int .i64 y.2)).cell? ⟨w.heap.size + 1 + 1, 0, none⟩ = some (.int .i64 y.1) := by rw [Z2.cell]; rfl
      have z4 : ((v5.setCell ⟨w.heap.size + 1 + 1, 0, none⟩ (.int .i64 y.1)).setCell ⟨w.heap.size + 1 + 1, 1, none⟩ (.int .i64 y.2)).cell? ⟨w.heap.size + 1 + 1, 1, none⟩ = some (.int .i64 y.2) := by rw [Z2.cell]; rfl
      have Z1' := Z1.kept hgr (by omega)
      have Z2' := Z2.kept hgr (by omega)
      have u0 : v7.cell? ⟨w.heap.size + 1, 0, none⟩ = some (.int .i64 0) := by rw [Z1'.cell]; rfl
      have u1 : v7.cell? ⟨w.heap.size + 1, 1, none⟩ = some (.int .i64 0) := by rw [Z1'.cell]; rfl
      have g0 := Z1'.frozen 0
      have g1 := Z1'.frozen 1
      have u3 : v7.cell? ⟨w.heap.size + 1 + 1, 0, none⟩ = some (.int .i64 y.1) := by rw [Z2'.cell]; rfl
      have u4 : v7.cell? ⟨w.heap.size + 1 + 1, 1, none⟩ = some (.int .i64 y.2) := by rw [Z2'.cell]; rfl
      have HYY := Lib.hid hyy
      have HE := Aside.mk (And.intro HK7 KP)
      clear hyy HK7 KP HK6 HB6 Z0 Z1 Z2 hmemo hgr Y0 Y1 Y2
      go_wp2
      refine bodyPost_ret (v := .agg #[.int .i64 y.1, .int .i64 y.2]) (by simp [u0, u1, results, Try.results42, go_sem]) rfl ?_
      have HB8 : Below w.heap.size v7 ((v7.setCell ⟨w.heap.size + 1, 0, none⟩ (.int .i64 y.1)).setCell ⟨w.heap.size + 1, 1, none⟩ (.int .i64 y.2)) := ((Below.refl _ _).setCell (by show w.heap.size ≤ w.heap.size + 1; omega) _).setCell (by show w.heap.size ≤ w.heap.size + 1; omega) _
      exact ⟨by rw [hopeVal, HYY.out], HE.out.2.bel HB8, HE.out.1.bel HB8 ⟨t1, t2, t3, t4⟩⟩
  · have hv := hyes rfl
    simp only [Qm, hopeVal, Int.toNat_natCast] at hv
    subst hv
    clear hyes hno HS HC
    rcases hd with ⟨d1, d2⟩ | d1
    all_goals
      go_enter Try.func42, Try.ntmps42
      go_wp2_with fail
      refine bodyPost_ret (v := .agg #[.int .i64 (hopeH m n l h).1, .int .i64 (hopeH m n l h).2]) (by simp [results, Try.results42, go_sem]) rfl ?_
      have hb : Below w.heap.size w (((w.alloc (.cells #[.int .i64 n, .int .i64 l, .int .i64 h] 27)).alloc (.cells #[.int .i64 (hopeH m n l h).1, .int .i64 (hopeH m n l h).2] 43)).alloc (.cells #[.int .i64 (hopeH m n l h).1, .int .i64 (hopeH m n l h).2] 43)) := (by repeat (with_reducible first | exact Below.refl _ _ | assumption | refine Below.al ?_ _ | refine Below.dr ?_ | refine Below.drn ?_ _ | refine Below.sc ?_ (by simp <;> omega) _ | refine Below.th ?_ (by assumption)))
      exact ⟨rfl, Kept.of hb, HK.out.be hb⟩
/-- whatever ends are left: the hope that is asked for is the state's -/
theorem hope_ok (m : Riv) (hm : rivOk m = true) (R : Rp) : ∀ n : Nat, n ≤ 12 → HopeOk m R n := by
  intro n
  induction n with
  | zero =>
    intro _ l h w l0 l1 hh hk
    by_cases hl : l = 0
    · exact hope_go m hm R 0 l h w (by omega) l0 l1 hh (.inr hl) (fun k e => by omega) hk
    · exact hope_end m R l h w hl hk
  | succ n ih =>
    intro hn l h w l0 l1 hh hk
    exact hope_go m hm R (n + 1) l h w hn l0 l1 hh (.inl (by omega)) (fun k e => by obtain rfl : n = k := by omega
                                                                                    exact ih (by omega)) hk
end Go.Proofs.Ytjbgdpbeabakiaa
