/- Chapter 11: contract of skip.Value. -/
import Derived.Test.YtjbgdpbeabakiaaKC
import Derived.Deep.RegionWith
namespace Go.Proofs.Ytjbgdpbeabakiaa
open Go.RowKit Go.Shelf
set_option linter.unusedVariables false
set_option linter.unusedSimpArgs false
def valueV (m : Riv) (n l h : Int) : Value := if rivOk m && stOk n l h then .tuple #[hopeVal (hopeH m n.toNat l h), .int .i64 0] else .tuple #[.agg #[.int .i64 0, .int .i64 0], .int .i64 2]
theorem stOk_iff {n l h : Int} (e : stOk n l h = true) : (0 ≤ n ∧ n ≤ 12) ∧ (-96 ≤ l ∧ l ≤ 96) ∧ (h = 0 ∨ h = 1) := by
  simp only [stOk, Bool.and_eq_true, inR_iff] at e
  omega
structure Args (w : World) (A0 A1 : Option Addr) (m : Riv) : Prop where
  ra : Rows w.heap.size w A0 m.a
  rb : Rows w.heap.size w A1 m.b
  sa : Short m.a
  sb : Short m.b
  la : m.a.length < 4294967296
  lb : m.b.length < 4294967296
theorem Args.be {w w' : World} {A0 A1 : Option Addr} {m : Riv} (h : Args w A0 A1 m) (hb : Below w.heap.size w w') : Args w' A0 A1 m :=
  ⟨h.ra.toRows hb hb.size, h.rb.toRows hb hb.size, h.sa, h.sb, h.la, h.lb⟩
set_option maxHeartbeats 4000000 in
set_option maxRecDepth 100000 in
theorem Value_c (A0 A1 : Option Addr) (c0 c1 : Nat) (m : Riv) (n l h : Int) (w : World) (ha : Args w A0 A1 m) :
    Calls Try.prog 17 #[rivV m A0 A1 c0 c1, .agg #[.int .i64 n, .int .i64 l, .int .i64 h]] w fun e w' => e = .returned (valueV m n l h) ∧ Below w.heap.size w w' := by
  have K1 := Aside.mk (fun w (ha : Args w A0 A1 m) => right_c A0 A1 c0 c1 m n l h w ha.ra ha.rb ha.sa ha.sb ha.la ha.lb)
  have K2 := Aside.mk (fun w (ha : Args w A0 A1 m) => reckon_c A0 A1 c0 c1 m w ha.ra ha.rb)
  have HB0 : Below w.heap.size w (((w.alloc (.cells #[.int .i64 m.d, .slice A0 m.a.length c0, .slice A1 m.b.length c1] 25)).alloc (.cells #[.int .i64 n, .int .i64 l, .int .i64 h] 27)).alloc (.cells #[.int .i64 0, .int .i64 0] 43)) := (by repeat (with_reducible first | exact Below.refl _ _ | assumption | refine Below.al ?_ _ | refine Below.dr ?_ | refine Below.drn ?_ _ | refine Below.sc ?_ (by simp <;> omega) _ | refine Below.th ?_ (by assumption)))
  have X0 : Blk (((w.alloc (.cells #[.int .i64 m.d, .slice A0 m.a.length c0, .slice A1 m.b.length c1] 25)).alloc (.cells #[.int .i64 n, .int .i64 l, .int .i64 h] 27)).alloc (.cells #[.int .i64 0, .int .i64 0] 43)) w.heap.size #[.int .i64 m.d, .slice A0 m.a.length c0, .slice A1 m.b.length c1] 25 := ((Blk.fresh _ _ _).al _).al _
  have X1 : Blk (((w.alloc (.cells #[.int .i64 m.d, .slice A0 m.a.length c0, .slice A1 m.b.length c1] 25)).alloc (.cells #[.int .i64 n, .int .i64 l, .int .i64 h] 27)).alloc (.cells #[.int .i64 0, .int .i64 0] 43)) (w.heap.size + 1) #[.int .i64 n, .int .i64 l, .int .i64 h] 27 := (Blk.fresh' (by simp)).al _
  have X2 : Blk (((w.alloc (.cells #[.int .i64 m.d, .slice A0 m.a.length c0, .slice A1 m.b.length c1] 25)).alloc (.cells #[.int .i64 n, .int .i64 l, .int .i64 h] 27)).alloc (.cells #[.int .i64 0, .int .i64 0] 43)) (w.heap.size + 1 + 1) #[.int .i64 0, .int .i64 0] 43 := Blk.fresh' (by simp)
  have HA := ha.be HB0
  unfold rivV at *
  clear ha
  cases e1 : rivOk m && stOk n l h
  · rw [e1] at K1
    go_enter Try.func17, Try.ntmps17
    go_wp2_with fail
    generalize ((w.alloc (.cells #[.int .i64 m.d, .slice A0 m.a.length c0, .slice A1 m.b.length c1] 25)).alloc (.cells #[.int .i64 n, .int .i64 l, .int .i64 h] 27)).alloc (.cells #[.int .i64 0, .int .i64 0] 43) = v at *
    refine (K1.out _ HA).mono ?_
    rintro e w' ⟨rfl, zb⟩
    have X2 := X2.be zb
    have x0 : w'.cell? ⟨w.heap.size + 1 + 1, 0, none⟩ = some (.int .i64 0) := by rw [X2.cell]; rfl
    have x1 : w'.cell? ⟨w.heap.size + 1 + 1, 1, none⟩ = some (.int .i64 0) := by rw [X2.cell]; rfl
    have f0 := X2.frozen 0
    have f1 := X2.frozen 1
    have hB1 := Below.th HB0 zb
    have HE := Lib.hid (show valueV m n l h = .tuple #[.agg #[.int .i64 0, .int .i64 0], .int .i64 2] by simp only [valueV]; rw [e1]; rfl)
    clear HA zb X0 X1 HB0 e1
    go_wp2
    refine bodyPost_ret (v := .tuple #[.agg #[.int .i64 0, .int .i64 0], .int .i64 2]) (by simp [x0, x1, results, Try.results17, go_sem]) rfl ?_
    exact ⟨by rw [HE.out], (by repeat (with_reducible first | exact Below.refl _ _ | assumption | refine Below.al ?_ _ | refine Below.dr ?_ | refine Below.drn ?_ _ | refine Below.sc ?_ (by simp <;> omega) _ | refine Below.th ?_ (by assumption)))⟩
  · rw [e1] at K1
    rw [Bool.and_eq_true] at e1
    obtain ⟨em, es⟩ := e1
    obtain ⟨⟨n0, n1⟩, ⟨l0, l1⟩, hh⟩ := stOk_iff es
    obtain ⟨k, rfl⟩ : ∃ k : Nat, n = k := ⟨n.toNat, by omega⟩
    have HE := Lib.hid (show valueV m k l h = .tuple #[hopeVal (hopeH m k l h), .int .i64 0] by simp [valueV, em, es])
    have KH : Aside (∀ (R : Rp) (w : World), Rk m R w → Calls Try.prog 42 #[.agg #[.int .i64 k, .int .i64 l, .int .i64 h], .pointer (some ⟨R.kv, 0, none⟩), .pointer (some ⟨R.rv, 0, none⟩)] w fun e w' => e = .returned (.agg #[.int .i64 (hopeH m k l h).1, .int .i64 (hopeH m k l h).2]) ∧ Kept R.mb w w' ∧ Rk m R w') := ⟨fun R w hk => hope_ok m em R k (by omega) l h w l0 l1 hh hk⟩
    clear em es
    go_enter Try.func17, Try.ntmps17
    go_wp2_with fail
    generalize ((w.alloc (.cells #[.int .i64 m.d, .slice A0 m.a.length c0, .slice A1 m.b.length c1] 25)).alloc (.cells #[.int .i64 k, .int .i64 l, .int .i64 h] 27)).alloc (.cells #[.int .i64 0, .int .i64 0] 43) = v at *
    refine (K1.out _ HA).mono ?_
    rintro e w' ⟨rfl, zb⟩
    have X0 := X0.be zb
    have X1 := X1.be zb
    have X2 := X2.be zb
    have HA := HA.be zb
    have HA2 := Aside.mk HA
    have hB1 := Below.th HB0 zb
    have x0 : w'.cell? ⟨w.heap.size, 0, none⟩ = some (.int .i64 m.d) := by rw [X0.cell]; rfl
    have x1 : w'.cell? ⟨w.heap.size, 1, none⟩ = some (.slice A0 m.a.length c0) := by rw [X0.cell]; rfl
    have x2 : w'.cell? ⟨w.heap.size, 2, none⟩ = some (.slice A1 m.b.length c1) := by rw [X0.cell]; rfl
    have y0 : w'.cell? ⟨w.heap.size + 1, 0, none⟩ = some (.int .i64 k) := by rw [X1.cell]; rfl
    have y1 : w'.cell? ⟨w.heap.size + 1, 1, none⟩ = some (.int .i64 l) := by rw [X1.cell]; rfl
    have y2 : w'.cell? ⟨w.heap.size + 1, 2, none⟩ = some (.int .i64 h) := by rw [X1.cell]; rfl
    have hl2 := X2.lt
    clear HA zb HB0
    generalize hopeH m k l h = y at *
    go_wp2_with fail
    go_region_with (first
      | (go_at_call 35; refine (K2.out _ (HA2.out.be (Below.dr (Below.refl _ _)))).mono ?_; rintro e wn ⟨rfl, hkn, zbn⟩; have q0 : wn.cell? ⟨w'.heap.size + 1, 3, none⟩ = some (.func (.func 42) #[] #[.pointer (some ⟨w'.heap.size + 4, 0, none⟩), .pointer (some ⟨w'.heap.size + 2, 0, none⟩)]) := (by have := hkn.r.cell 3; simpa [rpOf] using this); have Y1 := X1.dr.be zbn; have Y2 := X2.dr.be zbn; have z0 : wn.cell? ⟨w.heap.size + 1, 0, none⟩ = some (.int .i64 k) := (by rw [Y1.cell]; rfl); have z1 : wn.cell? ⟨w.heap.size + 1, 1, none⟩ = some (.int .i64 l) := (by rw [Y1.cell]; rfl); have z2 : wn.cell? ⟨w.heap.size + 1, 2, none⟩ = some (.int .i64 h) := (by rw [Y1.cell]; rfl))
      | (go_at_call 42; refine (KH.out (rpOf w'.heap.size A0 A1 c0 c1) _ hkn).mono ?_; rintro e wh ⟨rfl, hkep, hkk⟩; have Z2 := Y2.kept hkep (by simp [rpOf]; omega); have u0 : wh.cell? ⟨w.heap.size + 1 + 1, 0, none⟩ = some (.int .i64 0) := (by rw [Z2.cell]; rfl); have u1 : wh.cell? ⟨w.heap.size + 1 + 1, 1, none⟩ = some (.int .i64 0) := (by rw [Z2.cell]; rfl); have f0 := Z2.frozen 0; have f1 := Z2.frozen 1))
    all_goals
      have hBn : Below w.heap.size w wn := Below.th (Below.dr hB1) zbn
      have hBh : Below w.heap.size w wh := hBn.trans (hkep.below (by have := hB1.size; simp [rpOf]; omega) hBn.size)
      clear hkk hkn hBn
      go_wp2
      refine bodyPost_ret (v := .tuple #[.agg #[.int .i64 y.1, .int .i64 y.2], .int .i64 0]) (by simp [u0, u1, results, Try.results17, go_sem]) rfl ?_
      exact ⟨by rw [HE.out, hopeVal], (by repeat (with_reducible first | exact Below.refl _ _ | assumption | refine Below.al ?_ _ | refine Below.dr ?_ | refine Below.drn ?_ _ | refine Below.sc ?_ (by simp <;> omega) _ | refine Below.th ?_ (by assumption)))⟩
end Go.Proofs.Ytjbgdpbeabakiaa
