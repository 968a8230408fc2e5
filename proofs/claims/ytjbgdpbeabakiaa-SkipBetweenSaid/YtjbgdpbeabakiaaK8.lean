/- Chapter 11: the iterator over the hopes behind an end, where ends are left. -/
import Derived.Test.YtjbgdpbeabakiaaK7
namespace Go.Proofs.Ytjbgdpbeabakiaa
open Go.RowKit Go.Shelf
set_option linter.unusedVariables false
set_option linter.unusedSimpArgs false
attribute [local go_sem] Oper.semAt_some
theorem Rk.lts2 {m : Riv} {R : Rp} {w w' : World} (h : Rk m R w) (hb : Below w.heap.size w w') : R.rb < w'.heap.size ∧ R.rv < w'.heap.size ∧ R.kv < w'.heap.size ∧ R.mb < w'.heap.size := (h.be hb).lts
theorem cells_of {W : World} {rB sB : Nat} {m : Riv} {R : Rp} {n l h : Int} (x : Blk W rB #[.pointer (some ⟨R.rb, 0, none⟩)] 73) (k : Rk m R W) (s : Blk W sB #[.int .i64 n, .int .i64 l, .int .i64 h] 27) :
    W.cell? ⟨rB, 0, none⟩ = some (.pointer (some ⟨R.rb, 0, none⟩)) ∧ W.cell? ⟨R.rb, 3, none⟩ = some (.func (.func 42) #[] #[.pointer (some ⟨R.kv, 0, none⟩), .pointer (some ⟨R.rv, 0, none⟩)]) ∧
      W.cell? ⟨sB, 0, none⟩ = some (.int .i64 n) ∧ W.cell? ⟨sB, 1, none⟩ = some (.int .i64 l) ∧ W.cell? ⟨sB, 2, none⟩ = some (.int .i64 h) :=
  ⟨by rw [x.cell]; rfl, by rw [k.r.cell]; rfl, by rw [s.cell]; rfl, by rw [s.cell]; rfl, by rw [s.cell]; rfl⟩
theorem below_two (B : Nat) (W : World) (u v : Value) : Below B W ((W.setCell ⟨B, 0, none⟩ u).setCell ⟨B, 1, none⟩ v) := ((Below.refl B W).setCell (Nat.le_refl _) u).setCell (Nat.le_refl _) v
set_option maxHeartbeats 4000000 in
set_option maxRecDepth 100000 in
theorem nexts1_ms0 (m : Riv) (R : Rp) (n : Nat) (l : Int) (sB rB : Nat) (w : World) (l0 : -96 ≤ l) (l1 : l ≤ 96) (n12 : n + 1 ≤ 12) (IH : HopeOk m R n) (hk : Rk m R w) (X1 : Blk w sB #[.int .i64 ((n : Int) + 1), .int .i64 l, .int .i64 0] 27) (X2 : Blk w rB #[.pointer (some ⟨R.rb, 0, none⟩)] 73) (n1 : sB ≠ R.mb) (n2 : rB ≠ R.mb) :
    SeqM Try.prog 58 #[.pointer (some ⟨sB, 0, none⟩), .pointer (some ⟨rB, 0, none⟩)] hopeVal R.mb (Rk m R) (rowH (stepH m (n + 1) l 0)) w := by
  intro lp J W hW hJ hY h0
  have SB := X1.lt
  have SR := X2.lt
  have hkW := hk.be hW
  have X1 := X1.be hW
  have X2 := X2.be hW
  have hsz := hW.size
  have HY := Aside.mk hY
  have HJ := Aside.mk hJ
  have HS := Aside.mk (fun b w => sure_c b w)
  have LT := Aside.mk hk.lts
  have KN := Aside.mk (fun (p : Int) (h0 : -8 ≤ p) (h1 : p ≤ 8) (w : World) => next_c ((n : Int) + 1) l 0 p w (by omega) (by omega) l0 l1 (by omega) h0 h1)
  have KH : Aside (∀ (p : Int) (w : World), Rk m R w → Calls Try.prog 42 #[.agg #[.int .i64 n, .int .i64 (nextL l 0 p), .int .i64 (nextH 0 p)], .pointer (some ⟨R.kv, 0, none⟩), .pointer (some ⟨R.rv, 0, none⟩)] w fun e w' => e = .returned (.agg #[.int .i64 (hopeH m n (nextL l 0 p) (nextH 0 p)).1, .int .i64 (hopeH m n (nextL l 0 p) (nextH 0 p)).2]) ∧ Kept R.mb w w' ∧ Rk m R w') := ⟨fun p w hk => IH (nextL l 0 p) (nextH 0 p) w (nextL_bd l 0 p).1 (nextL_bd l 0 p).2 (nextH_bd p (by omega)) hk⟩
  rw [show ((n : Int) + 1 - 1) = n by omega] at KN
  clear hY hJ hk hW IH
  refine callsIn_of_wp Try.func58 rfl trivial ?_ rfl
  simp only [Try.ntmps58, List.size_toArray, List.length_cons, List.length_nil, Nat.reduceAdd, Nat.reduceSub, Array.replicate_succ, Array.replicate_zero, List.push_toArray, List.append_toArray, List.nil_append, List.cons_append]
  gi_wp2
  gi_loopw [4, 5] (fun i x wr => ∃ k : Nat, k ≤ 17 ∧ i = .int .i64 ((k : Int) - 8) ∧ Aside (J ((rowH (stepH m (n + 1) l 0)).take k) wr ∧ Rk m R wr ∧ Blk wr sB #[.int .i64 ((n : Int) + 1), .int .i64 l, .int .i64 0] 27 ∧ Blk wr rB #[.pointer (some ⟨R.rb, 0, none⟩)] 73 ∧ w.heap.size ≤ wr.heap.size)) (fun i _ _ => (9 - intOf i).toNat)
  case atStart => exact ⟨0, by omega, rfl, ⟨by simpa using h0, hkW, X1, X2, hsz⟩⟩
  case round =>
    obtain ⟨k, hk17, rfl, HX⟩ := hrel
    have s0 := HX.out.2.2.1.cell 0
    have s2 := HX.out.2.2.1.cell 2
    have sl := HX.out.2.2.1.lt
    simp at s0 s2
    by_cases hlt : k < 17
    · have hp3 : 0 < (k : Int) - 8 ∨ ((k : Int) - 8 < 0 ∧ ¬ 0 < (k : Int) - 8) ∨ (¬ (k : Int) - 8 < 0 ∧ ¬ 0 < (k : Int) - 8) := by omega
      have E := Lib.hid (rowH_snoc (stepH m (n + 1) l 0) hlt)
      rw [stepH_succ] at E
      have HL := Lib.hid (show ((rowH (stepH m (n + 1) l 0)).take k).length < (rowH (stepH m (n + 1) l 0)).length by rw [List.length_take, rowH_len]; omega)
      have KN := Aside.mk (KN.out ((k : Int) - 8) (by omega) (by omega))
      have KH := Aside.mk (KH.out ((k : Int) - 8))
      generalize nextL l 0 ((k : Int) - 8) = L at *
      generalize nextH 0 ((k : Int) - 8) = H at *
      generalize rowH (stepH m (n + 1) l 0) = row at *
      rcases hp3 with hp | ⟨hp, hp'⟩ | ⟨hp, hp'⟩
      all_goals
        gi_wp2
        refine ⟨trivial, rfl, ?_⟩
        refine (callsIn_wide.2 (HS.out _ _)).mono ?_
        rintro e w' ⟨rfl, zb⟩
        generalize sureH _ = x
        have X3 := (HX.out.2.2.1.be zb).al (.cells #[.int .i64 x.1, .int .i64 x.2] 43)
        have XR := (HX.out.2.2.2.1.be zb).al (.cells #[.int .i64 x.1, .int .i64 x.2] 43)
        have HK := (HX.out.2.1.be zb).be (Below.al (Below.refl _ _) (.cells #[.int .i64 x.1, .int .i64 x.2] 43))
        have XX := Blk.fresh w' #[.int .i64 x.1, .int .i64 x.2] 43
        have KP : Kept R.mb wr (w'.alloc (.cells #[.int .i64 x.1, .int .i64 x.2] 43)) := (Kept.of zb).al _
        have t0 := X3.cell 0
        have tl : sB < w'.heap.size := by have := HX.out.2.2.1.lt; have := zb.size; omega
        have tr : rB < w'.heap.size := by have := HX.out.2.2.2.1.lt; have := zb.size; omega
        simp at t0
        have LTW := HX.out.2.1.lts2 zb
        have NE : w'.heap.size ≠ R.mb := by have := LTW.2.2.2; omega
        gi_wp2
        generalize hv2 : w'.alloc (.cells #[.int .i64 x.1, .int .i64 x.2] 43) = v2 at *
        refine wpIn_wide.2 ?_
        have c0 := cells_of XR.dr (HK.be (Below.dr (Below.refl _ _))) X3.dr
        go_region_held3 (fun W => W.cell? ⟨rB, 0, none⟩ = some (.pointer (some ⟨R.rb, 0, none⟩)) ∧ W.cell? ⟨R.rb, 3, none⟩ = some (.func (.func 42) #[] #[.pointer (some ⟨R.kv, 0, none⟩), .pointer (some ⟨R.rv, 0, none⟩)]) ∧
            W.cell? ⟨sB, 0, none⟩ = some (.int .i64 ((n : Int) + 1)) ∧ W.cell? ⟨sB, 1, none⟩ = some (.int .i64 l) ∧ W.cell? ⟨sB, 2, none⟩ = some (.int .i64 0))
          (first | exact c0 | exact c1 | exact c2 | exact cells_of (XRW.below (below_two _ _ _ _) tr) (hkk.bel (below_two _ _ _ _) LTW) (XSW.below (below_two _ _ _ _) tl))
          (first
            | (go_at_call 25; refine (KN.out _).mono ?_; rintro e wn ⟨rfl, zbn⟩; have HKn := (HK.be (Below.dr (Below.refl _ _))).be zbn; have c1 := cells_of (XR.dr.be zbn) HKn (X3.dr.be zbn); have kpn := (KP.dr).be zbn)
            | (go_at_call 42; refine (KH.out _ HKn).mono ?_; rintro e wh ⟨rfl, hkep, hkk⟩; have c2 := cells_of ((XR.dr.be zbn).kept hkep n2) hkk ((X3.dr.be zbn).kept hkep n1); have kph := kpn.th hkep; have XW := (XX.dr.be zbn).kept hkep NE; have XRW := (XR.dr.be zbn).kept hkep n2; have XSW := (X3.dr.be zbn).kept hkep n1; have f0 := XW.frozen 0; have f1 := XW.frozen 1; have g0 : wh.cell? ⟨w'.heap.size, 0, none⟩ = some (.int .i64 x.1) := (by rw [XW.cell]; rfl); have g1 : wh.cell? ⟨w'.heap.size, 1, none⟩ = some (.int .i64 x.2) := (by rw [XW.cell]; rfl)))
        have KW : Kept R.mb wr _ := kph.sc (p := ⟨w'.heap.size, 0, none⟩) (by have := zb.size; simpa using this) (.int .i64 (hopeH m n L H).1)
        have KW := KW.sc (p := ⟨w'.heap.size, 1, none⟩) (by have := zb.size; simpa using this) (.int .i64 (hopeH m n L H).2)
        have HKW := hkk.bel (below_two w'.heap.size wh (.int .i64 (hopeH m n L H).1) (.int .i64 (hopeH m n L H).2)) LTW
        have XRW := XRW.below (below_two w'.heap.size wh (.int .i64 (hopeH m n L H).1) (.int .i64 (hopeH m n L H).2)) tr
        have XSW := XSW.below (below_two w'.heap.size wh (.int .i64 (hopeH m n L H).1) (.int .i64 (hopeH m n L H).2)) tl
        have XW := (XW.set 0 (.int .i64 (hopeH m n L H).1)).set 1 (.int .i64 (hopeH m n L H).2)
        have hJ4 := HJ.out _ wr _ HX.out.1 KW
        have hs4 : w.heap.size ≤ ((wh.setCell ⟨w'.heap.size, 0, none⟩ (.int .i64 (hopeH m n L H).1)).setCell ⟨w'.heap.size, 1, none⟩ (.int .i64 (hopeH m n L H).2)).heap.size := Nat.le_trans HX.out.2.2.2.2 KW.size
        generalize (wh.setCell ⟨w'.heap.size, 0, none⟩ (.int .i64 (hopeH m n L H).1)).setCell ⟨w'.heap.size, 1, none⟩ (.int .i64 (hopeH m n L H).2) = v4 at *
        have HH := Aside.mk (And.intro HKW (And.intro XSW (And.intro XRW hs4)))
        generalize hopeH m n L H = y at *
        obtain ⟨fn, tmps, assign, body, hy, hR⟩ := HY.out _ y v4 hJ4 HL.out
        simp only [hopeVal] at hy
        have g0 : v4.cell? ⟨w'.heap.size, 0, none⟩ = some (.int .i64 y.1) := by rw [XW.cell]; rfl
        have g1 : v4.cell? ⟨w'.heap.size, 1, none⟩ = some (.int .i64 y.2) := by rw [XW.cell]; rfl
        clear c0 c1 c2 f0 f1 zb t0 hJ4 HKW XRW XSW hkk hkep HKn kpn kph KW XX X3 XR HK KP
        gi_wp2
        refine ⟨rfl, hR.mono ?_⟩
        rintro e W2 ⟨rfl, hJ2, hb2⟩
        have hk2 := HH.out.1.bel hb2 LT.out
        have X5 := HH.out.2.1.below hb2 SB
        have X6 := HH.out.2.2.1.below hb2 SR
        have hs5 := hb2.size
        have hs6 := HH.out.2.2.2
        clear hR hy g0 g1
        gi_wp2
        go_roundw
        case rel => exact ⟨k + 1, by omega, by go_num, ⟨by rw [E.out]; exact hJ2, hk2, X5, X6, Nat.le_trans hs6 hs5⟩⟩
        case measure => simp [intOf]; omega
    · obtain rfl : k = 17 := by omega
      have hJ17 := HX.out.1
      rw [List.take_of_length_le (by rw [rowH_len]; omega)] at hJ17
      gi_wp2
      go_end0
      exact ⟨⟨_, rfl⟩, hJ17, HX.out.2.1⟩
set_option maxHeartbeats 4000000 in
set_option maxRecDepth 100000 in
theorem nexts1_ms1 (m : Riv) (R : Rp) (n : Nat) (l : Int) (sB rB : Nat) (w : World) (l0 : -96 ≤ l) (l1 : l ≤ 96) (n12 : n + 1 ≤ 12) (IH : HopeOk m R n) (hk : Rk m R w) (X1 : Blk w sB #[.int .i64 ((n : Int) + 1), .int .i64 l, .int .i64 1] 27) (X2 : Blk w rB #[.pointer (some ⟨R.rb, 0, none⟩)] 73) (n1 : sB ≠ R.mb) (n2 : rB ≠ R.mb) :
    SeqM Try.prog 58 #[.pointer (some ⟨sB, 0, none⟩), .pointer (some ⟨rB, 0, none⟩)] hopeVal R.mb (Rk m R) (rowH (stepH m (n + 1) l 1)) w := by
  intro lp J W hW hJ hY h0
  have SB := X1.lt
  have SR := X2.lt
  have hkW := hk.be hW
  have X1 := X1.be hW
  have X2 := X2.be hW
  have hsz := hW.size
  have HY := Aside.mk hY
  have HJ := Aside.mk hJ
  have HS := Aside.mk (fun b w => sure_c b w)
  have LT := Aside.mk hk.lts
  have KN := Aside.mk (fun (p : Int) (h0 : -8 ≤ p) (h1 : p ≤ 8) (w : World) => next_c ((n : Int) + 1) l 1 p w (by omega) (by omega) l0 l1 (by omega) h0 h1)
  have KH : Aside (∀ (p : Int) (w : World), Rk m R w → Calls Try.prog 42 #[.agg #[.int .i64 n, .int .i64 (nextL l 1 p), .int .i64 (nextH 1 p)], .pointer (some ⟨R.kv, 0, none⟩), .pointer (some ⟨R.rv, 0, none⟩)] w fun e w' => e = .returned (.agg #[.int .i64 (hopeH m n (nextL l 1 p) (nextH 1 p)).1, .int .i64 (hopeH m n (nextL l 1 p) (nextH 1 p)).2]) ∧ Kept R.mb w w' ∧ Rk m R w') := ⟨fun p w hk => IH (nextL l 1 p) (nextH 1 p) w (nextL_bd l 1 p).1 (nextL_bd l 1 p).2 (nextH_bd p (by omega)) hk⟩
  rw [show ((n : Int) + 1 - 1) = n by omega] at KN
  clear hY hJ hk hW IH
  refine callsIn_of_wp Try.func58 rfl trivial ?_ rfl
  simp only [Try.ntmps58, List.size_toArray, List.length_cons, List.length_nil, Nat.reduceAdd, Nat.reduceSub, Array.replicate_succ, Array.replicate_zero, List.push_toArray, List.append_toArray, List.nil_append, List.cons_append]
  gi_wp2
  gi_loopw [4, 5] (fun i x wr => ∃ k : Nat, k ≤ 17 ∧ i = .int .i64 ((k : Int) - 8) ∧ Aside (J ((rowH (stepH m (n + 1) l 1)).take k) wr ∧ Rk m R wr ∧ Blk wr sB #[.int .i64 ((n : Int) + 1), .int .i64 l, .int .i64 1] 27 ∧ Blk wr rB #[.pointer (some ⟨R.rb, 0, none⟩)] 73 ∧ w.heap.size ≤ wr.heap.size)) (fun i _ _ => (9 - intOf i).toNat)
  case atStart => exact ⟨0, by omega, rfl, ⟨by simpa using h0, hkW, X1, X2, hsz⟩⟩
  case round =>
    obtain ⟨k, hk17, rfl, HX⟩ := hrel
    have s0 := HX.out.2.2.1.cell 0
    have s2 := HX.out.2.2.1.cell 2
    have sl := HX.out.2.2.1.lt
    simp at s0 s2
    by_cases hlt : k < 17
    · have hp3 : 0 < (k : Int) - 8 ∨ ((k : Int) - 8 < 0 ∧ ¬ 0 < (k : Int) - 8) ∨ (¬ (k : Int) - 8 < 0 ∧ ¬ 0 < (k : Int) - 8) := by omega
      have E := Lib.hid (rowH_snoc (stepH m (n + 1) l 1) hlt)
      rw [stepH_succ] at E
      have HL := Lib.hid (show ((rowH (stepH m (n + 1) l 1)).take k).length < (rowH (stepH m (n + 1) l 1)).length by rw [List.length_take, rowH_len]; omega)
      have KN := Aside.mk (KN.out ((k : Int) - 8) (by omega) (by omega))
      have KH := Aside.mk (KH.out ((k : Int) - 8))
      generalize nextL l 1 ((k : Int) - 8) = L at *
      generalize nextH 1 ((k : Int) - 8) = H at *
      generalize rowH (stepH m (n + 1) l 1) = row at *
      rcases hp3 with hp | ⟨hp, hp'⟩ | ⟨hp, hp'⟩
      all_goals
        gi_wp2
        refine ⟨trivial, rfl, ?_⟩
        refine (callsIn_wide.2 (HS.out _ _)).mono ?_
        rintro e w' ⟨rfl, zb⟩
        generalize sureH _ = x
        have X3 := (HX.out.2.2.1.be zb).al (.cells #[.int .i64 x.1, .int .i64 x.2] 43)
        have XR := (HX.out.2.2.2.1.be zb).al (.cells #[.int .i64 x.1, .int .i64 x.2] 43)
        have HK := (HX.out.2.1.be zb).be (Below.al (Below.refl _ _) (.cells #[.int .i64 x.1, .int .i64 x.2] 43))
        have XX := Blk.fresh w' #[.int .i64 x.1, .int .i64 x.2] 43
        have KP : Kept R.mb wr (w'.alloc (.cells #[.int .i64 x.1, .int .i64 x.2] 43)) := (Kept.of zb).al _
        have t0 := X3.cell 0
        have tl : sB < w'.heap.size := by have := HX.out.2.2.1.lt; have := zb.size; omega
        have tr : rB < w'.heap.size := by have := HX.out.2.2.2.1.lt; have := zb.size; omega
        simp at t0
        have LTW := HX.out.2.1.lts2 zb
        have NE : w'.heap.size ≠ R.mb := by have := LTW.2.2.2; omega
        gi_wp2
        generalize hv2 : w'.alloc (.cells #[.int .i64 x.1, .int .i64 x.2] 43) = v2 at *
        refine wpIn_wide.2 ?_
        have c0 := cells_of XR.dr (HK.be (Below.dr (Below.refl _ _))) X3.dr
        go_region_held3 (fun W => W.cell? ⟨rB, 0, none⟩ = some (.pointer (some ⟨R.rb, 0, none⟩)) ∧ W.cell? ⟨R.rb, 3, none⟩ = some (.func (.func 42) #[] #[.pointer (some ⟨R.kv, 0, none⟩), .pointer (some ⟨R.rv, 0, none⟩)]) ∧
            W.cell? ⟨sB, 0, none⟩ = some (.int .i64 ((n : Int) + 1)) ∧ W.cell? ⟨sB, 1, none⟩ = some (.int .i64 l) ∧ W.cell? ⟨sB, 2, none⟩ = some (.int .i64 1))
          (first | exact c0 | exact c1 | exact c2 | exact cells_of (XRW.below (below_two _ _ _ _) tr) (hkk.bel (below_two _ _ _ _) LTW) (XSW.below (below_two _ _ _ _) tl))
          (first
            | (go_at_call 25; refine (KN.out _).mono ?_; rintro e wn ⟨rfl, zbn⟩; have HKn := (HK.be (Below.dr (Below.refl _ _))).be zbn; have c1 := cells_of (XR.dr.be zbn) HKn (X3.dr.be zbn); have kpn := (KP.dr).be zbn)
            | (go_at_call 42; refine (KH.out _ HKn).mono ?_; rintro e wh ⟨rfl, hkep, hkk⟩; have c2 := cells_of ((XR.dr.be zbn).kept hkep n2) hkk ((X3.dr.be zbn).kept hkep n1); have kph := kpn.th hkep; have XW := (XX.dr.be zbn).kept hkep NE; have XRW := (XR.dr.be zbn).kept hkep n2; have XSW := (X3.dr.be zbn).kept hkep n1; have f0 := XW.frozen 0; have f1 := XW.frozen 1; have g0 : wh.cell? ⟨w'.heap.size, 0, none⟩ = some (.int .i64 x.1) := (by rw [XW.cell]; rfl); have g1 : wh.cell? ⟨w'.heap.size, 1, none⟩ = some (.int .i64 x.2) := (by rw [XW.cell]; rfl)))
        have KW : Kept R.mb wr _ := kph.sc (p := ⟨w'.heap.size, 0, none⟩) (by have := zb.size; simpa using this) (.int .i64 (hopeH m n L H).1)
        have KW := KW.sc (p := ⟨w'.heap.size, 1, none⟩) (by have := zb.size; simpa using this) (.int .i64 (hopeH m n L H).2)
        have HKW := hkk.bel (below_two w'.heap.size wh (.int .i64 (hopeH m n L H).1) (.int .i64 (hopeH m n L H).2)) LTW
        have XRW := XRW.below (below_two w'.heap.size wh (.int .i64 (hopeH m n L H).1) (.int .i64 (hopeH m n L H).2)) tr
        have XSW := XSW.below (below_two w'.heap.size wh (.int .i64 (hopeH m n L H).1) (.int .i64 (hopeH m n L H).2)) tl
        have XW := (XW.set 0 (.int .i64 (hopeH m n L H).1)).set 1 (.int .i64 (hopeH m n L H).2)
        have hJ4 := HJ.out _ wr _ HX.out.1 KW
        have hs4 : w.heap.size ≤ ((wh.setCell ⟨w'.heap.size, 0, none⟩ (.int .i64 (hopeH m n L H).1)).setCell ⟨w'.heap.size, 1, none⟩ (.int .i64 (hopeH m n L H).2)).heap.size := Nat.le_trans HX.out.2.2.2.2 KW.size
        generalize (wh.setCell ⟨w'.heap.size, 0, none⟩ (.int .i64 (hopeH m n L H).1)).setCell ⟨w'.heap.size, 1, none⟩ (.int .i64 (hopeH m n L H).2) = v4 at *
        have HH := Aside.mk (And.intro HKW (And.intro XSW (And.intro XRW hs4)))
        generalize hopeH m n L H = y at *
        obtain ⟨fn, tmps, assign, body, hy, hR⟩ := HY.out _ y v4 hJ4 HL.out
        simp only [hopeVal] at hy
        have g0 : v4.cell? ⟨w'.heap.size, 0, none⟩ = some (.int .i64 y.1) := by rw [XW.cell]; rfl
        have g1 : v4.cell? ⟨w'.heap.size, 1, none⟩ = some (.int .i64 y.2) := by rw [XW.cell]; rfl
        clear c0 c1 c2 f0 f1 zb t0 hJ4 HKW XRW XSW hkk hkep HKn kpn kph KW XX X3 XR HK KP
        gi_wp2
        refine ⟨rfl, hR.mono ?_⟩
        rintro e W2 ⟨rfl, hJ2, hb2⟩
        have hk2 := HH.out.1.bel hb2 LT.out
        have X5 := HH.out.2.1.below hb2 SB
        have X6 := HH.out.2.2.1.below hb2 SR
        have hs5 := hb2.size
        have hs6 := HH.out.2.2.2
        clear hR hy g0 g1
        gi_wp2
        go_roundw
        case rel => exact ⟨k + 1, by omega, by go_num, ⟨by rw [E.out]; exact hJ2, hk2, X5, X6, Nat.le_trans hs6 hs5⟩⟩
        case measure => simp [intOf]; omega
    · obtain rfl : k = 17 := by omega
      have hJ17 := HX.out.1
      rw [List.take_of_length_le (by rw [rowH_len]; omega)] at hJ17
      gi_wp2
      go_end0
      exact ⟨⟨_, rfl⟩, hJ17, HX.out.2.1⟩
theorem nexts1_m (m : Riv) (R : Rp) (n : Nat) (l h : Int) (sB rB : Nat) (w : World) (hh : h = 0 ∨ h = 1) (l0 : -96 ≤ l) (l1 : l ≤ 96) (n12 : n ≤ 12) (IH : ∀ k, n = k + 1 → HopeOk m R k) (hk : Rk m R w) (X1 : Blk w sB #[.int .i64 n, .int .i64 l, .int .i64 h] 27) (X2 : Blk w rB #[.pointer (some ⟨R.rb, 0, none⟩)] 73) (n1 : sB ≠ R.mb) (n2 : rB ≠ R.mb) :
    SeqM Try.prog 58 #[.pointer (some ⟨sB, 0, none⟩), .pointer (some ⟨rB, 0, none⟩)] hopeVal R.mb (Rk m R) (rowH (stepH m n l h)) w := by
  cases n with
  | zero => exact nexts1_m0 m R l h sB rB w hh hk X1 X2 n1 n2
  | succ n =>
    rw [show (((n + 1 : Nat) : Int)) = (n : Int) + 1 by omega] at X1
    rcases hh with rfl | rfl
    · exact nexts1_ms0 m R n l sB rB w l0 l1 n12 (IH n rfl) hk X1 X2 n1 n2
    · exact nexts1_ms1 m R n l sB rB w l0 l1 n12 (IH n rfl) hk X1 X2 n1 n2
end Go.Proofs.Ytjbgdpbeabakiaa
