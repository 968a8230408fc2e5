/- The law SkipStates: its function answers true (Blank's contract handed in). -/
import Derived.Test.YtjbgdpbeabakiaaKI
namespace Go.Proofs.Ytjbgdpbeabakiaa
open Go.RowKit Go.Shelf
set_option linter.unusedVariables false
set_option linter.unusedSimpArgs false
theorem nextV_told (n l h p : Int) : ∃ x y z e, nextV n l h p = .tuple #[.agg #[.int .i64 x, .int .i64 y, .int .i64 z], .int .i64 e] := by
  unfold nextV; split
  · split <;> exact ⟨_, _, _, _, rfl⟩
  · exact ⟨_, _, _, _, rfl⟩
/-- rivals as they come in: rows in memory, whatever their lengths -/
structure Came (w : World) (A0 A1 : Option Addr) (m : Riv) : Prop where
  ra : Rows w.heap.size w A0 m.a
  rb : Rows w.heap.size w A1 m.b
  la : m.a.length ≤ 9223372036854775807
  lb : m.b.length ≤ 9223372036854775807
  ca : ∀ c ∈ m.a, c.length ≤ 9223372036854775807
  cb : ∀ c ∈ m.b, c.length ≤ 9223372036854775807
theorem Came.be {w w' : World} {A0 A1 : Option Addr} {m : Riv} (h : Came w A0 A1 m) (hb : Below w.heap.size w w') : Came w' A0 A1 m := ⟨h.ra.toRows hb hb.size, h.rb.toRows hb hb.size, h.la, h.lb, h.ca, h.cb⟩
theorem Came.args {w : World} {A0 A1 : Option Addr} {m : Riv} (h : Came w A0 A1 m) (hg : greatB m = false) : Args w A0 A1 m := by
  simp only [greatB, Bool.or_eq_false_iff] at hg
  obtain ⟨⟨⟨ha0, ha⟩, hb0⟩, hb⟩ := hg
  refine ⟨h.ra, h.rb, fun i hi => ?_, fun i hi => ?_, by simp [manyB] at ha0; omega, by simp [manyB] at hb0; omega⟩
  · have := List.any_eq_false.1 ha m.a[i] (List.getElem_mem hi); simp [longB] at this; omega
  · have := List.any_eq_false.1 hb m.b[i] (List.getElem_mem hi); simp [longB] at this; omega
set_option maxHeartbeats 4000000 in
set_option maxRecDepth 100000 in
theorem SkipStates_c (hBl : BlankOk) (A0 A1 : Option Addr) (c0 c1 : Nat) (m : Riv) (n l h p : Int) (w : World) (hc : Came w A0 A1 m) :
    Calls Try.prog 3 #[rivV m A0 A1 c0 c1, .agg #[.int .i64 n, .int .i64 l, .int .i64 h], .int .i64 p] w fun e w' => e = .returned (.bool true) ∧ Below w.heap.size w w' := by
  have KA := Aside.mk (alive_c hBl)
  have KG := Aside.mk (fun w (h : Came w A0 A1 m) => Great_c A0 A1 c0 c1 m w h.ra h.rb h.la h.lb h.ca h.cb)
  have HB0 : Below w.heap.size w ((w.alloc (.cells #[.int .i64 m.d, .slice A0 m.a.length c0, .slice A1 m.b.length c1] 25)).alloc (.cells #[.int .i64 n, .int .i64 l, .int .i64 h] 27)) := (by repeat (with_reducible first | exact Below.refl _ _ | assumption | refine Below.al ?_ _ | refine Below.dr ?_ | refine Below.drn ?_ _ | refine Below.sc ?_ (by simp <;> omega) _ | refine Below.th ?_ (by assumption)))
  have X0 : Blk ((w.alloc (.cells #[.int .i64 m.d, .slice A0 m.a.length c0, .slice A1 m.b.length c1] 25)).alloc (.cells #[.int .i64 n, .int .i64 l, .int .i64 h] 27)) w.heap.size #[.int .i64 m.d, .slice A0 m.a.length c0, .slice A1 m.b.length c1] 25 := (Blk.fresh _ _ _).al _
  have X1 : Blk ((w.alloc (.cells #[.int .i64 m.d, .slice A0 m.a.length c0, .slice A1 m.b.length c1] 25)).alloc (.cells #[.int .i64 n, .int .i64 l, .int .i64 h] 27)) (w.heap.size + 1) #[.int .i64 n, .int .i64 l, .int .i64 h] 27 := Blk.fresh' (by simp)
  have HC := Aside.mk (hc.be HB0)
  cases hg : greatB m
  · have HR := (HC.out).args hg
    rw [hg] at KG
    obtain ⟨x, y, z, er, hnx⟩ := nextV_told n l h p
    have K1 := Aside.mk (fun w => Next_c n l h p w)
    have K2 := Aside.mk (fun w => RefNext_c n l h p w)
    rw [hnx] at K1 K2
    have K3 := Aside.mk (fun w (ha : Args w A0 A1 m) => CheckRivals_c A0 A1 c0 c1 m w ha.ra ha.rb ha.sa ha.sb ha.la ha.lb)
    have K4 := Aside.mk (fun w (ha : Args w A0 A1 m) => RefCheckRivals_c A0 A1 c0 c1 m w ha)
    have K5 := Aside.mk (fun w => CheckState_c n l h w)
    have K6 := Aside.mk (fun w => RefCheckState_c n l h w)
    unfold rivV at *
    clear hc hg hnx hBl
    generalize eArg (rivOk m) = q1 at *
    generalize eArg (stOk n l h) = q2 at *
    go_enter Try.func3, Try.ntmps3
    go_wp2_with fail
    generalize (w.alloc (.cells #[.int .i64 m.d, .slice A0 m.a.length c0, .slice A1 m.b.length c1] 25)).alloc (.cells #[.int .i64 n, .int .i64 l, .int .i64 h] 27) = v at *
    refine (KG.out _ HC.out).mono ?_
    rintro e v1 ⟨rfl, zb⟩
    have X0 := X0.be zb
    have X1 := X1.be zb
    have HR := HR.be zb
    have HB := Below.th HB0 zb
    have y0 := (X1.cell 0).trans (show _ = some (.int .i64 n) from rfl)
    have y1 := (X1.cell 1).trans (show _ = some (.int .i64 l) from rfl)
    have y2 := (X1.cell 2).trans (show _ = some (.int .i64 h) from rfl)
    clear zb HB0 KG HC
    go_wp2_with fail
    refine (K1.out _).mono ?_
    rintro e v2 ⟨rfl, zb⟩
    have X0 := (X0.be zb).al (.cells #[.int .i64 x, .int .i64 y, .int .i64 z] 27)
    have X1 := (X1.be zb).al (.cells #[.int .i64 x, .int .i64 y, .int .i64 z] 27)
    have X2 := Blk.fresh v2 #[.int .i64 x, .int .i64 y, .int .i64 z] 27
    have HR := (HR.be zb).be (Below.al (Below.refl _ _) (.cells #[.int .i64 x, .int .i64 y, .int .i64 z] 27))
    have HB := Below.al (Below.th HB zb) (.cells #[.int .i64 x, .int .i64 y, .int .i64 z] 27)
    have y0 := (X1.cell 0).trans (show _ = some (.int .i64 n) from rfl)
    have y1 := (X1.cell 1).trans (show _ = some (.int .i64 l) from rfl)
    have y2 := (X1.cell 2).trans (show _ = some (.int .i64 h) from rfl)
    clear zb K1
    go_wp2_with fail
    refine (K2.out _).mono ?_
    rintro e v3 ⟨rfl, zb⟩
    have X0 := (X0.be zb).al (.cells #[.int .i64 x, .int .i64 y, .int .i64 z] 27)
    have X1 := (X1.be zb).al (.cells #[.int .i64 x, .int .i64 y, .int .i64 z] 27)
    have X2 := (X2.be zb).al (.cells #[.int .i64 x, .int .i64 y, .int .i64 z] 27)
    have X3 := Blk.fresh v3 #[.int .i64 x, .int .i64 y, .int .i64 z] 27
    have HR := (HR.be zb).be (Below.al (Below.refl _ _) (.cells #[.int .i64 x, .int .i64 y, .int .i64 z] 27))
    have HB := Below.al (Below.th HB zb) (.cells #[.int .i64 x, .int .i64 y, .int .i64 z] 27)
    clear zb K2 y0 y1 y2
    go_wp2_with fail
    generalize v3.alloc (.cells #[.int .i64 x, .int .i64 y, .int .i64 z] 27) = v4 at *
    have l0 := X0.lt
    have l1 := X1.lt
    have x0 := (X0.cell 0).trans (show _ = some (.int .i64 m.d) from rfl)
    have x1 := (X0.cell 1).trans (show _ = some (.slice A0 m.a.length c0) from rfl)
    have x2 := (X0.cell 2).trans (show _ = some (.slice A1 m.b.length c1) from rfl)
    have y0 := (X1.cell 0).trans (show _ = some (.int .i64 n) from rfl)
    have y1 := (X1.cell 1).trans (show _ = some (.int .i64 l) from rfl)
    have y2 := (X1.cell 2).trans (show _ = some (.int .i64 h) from rfl)
    have HRA := Aside.mk HR
    clear HR
    refine wp_region_more (by kernel_rfl) (by kernel_rfl) ?_
    iterate 13
      refine more_ex rfl (fun K hK => ?_)
      apply Exists.intro
      refine ⟨fun W hW => ?_, ?_⟩
      · obtain ⟨zc, zf⟩ := bcell hW
        go_simp
        first
          | exact rfl
          | (go_at_call 12; exact more_call hW (K3.out _ (HRA.out.be hW)))
          | (go_at_call 13; exact more_call hW (K4.out _ (HRA.out.be hW)))
          | (go_at_call 14; exact more_call hW (K5.out _))
          | (go_at_call 15; exact more_call hW (K6.out _))
      go_simp
      refine hK _ ?_
      clear hK K
    refine wpQuiet_nil ?_
    intro w2 hw2
    have X2 := X2.be hw2
    have X3 := X3.be hw2
    have HB := Below.th HB hw2
    have p0 := (X2.cell 0).trans (show _ = some (.int .i64 x) from rfl)
    have p1 := (X2.cell 1).trans (show _ = some (.int .i64 y) from rfl)
    have p2 := (X2.cell 2).trans (show _ = some (.int .i64 z) from rfl)
    have r0 := (X3.cell 0).trans (show _ = some (.int .i64 x) from rfl)
    have r1 := (X3.cell 1).trans (show _ = some (.int .i64 y) from rfl)
    have r2 := (X3.cell 2).trans (show _ = some (.int .i64 z) from rfl)
    go_wp2_with fail
    refine (KA.out _).mono ?_
    rintro e v6 ⟨rfl, zb⟩
    go_wp2
    go_ret
    exact ⟨rfl, Below.th HB zb⟩
  · rw [hg] at KG
    unfold rivV at *
    clear hc hg hBl
    go_enter Try.func3, Try.ntmps3
    go_wp2_with fail
    refine (KG.out _ HC.out).mono ?_
    rintro e v1 ⟨rfl, zb⟩
    have HB := Below.th HB0 zb
    go_wp2_with fail
    refine (KA.out _).mono ?_
    rintro e v2 ⟨rfl, zb2⟩
    go_wp2
    go_ret
    exact ⟨rfl, Below.th HB zb2⟩
end Go.Proofs.Ytjbgdpbeabakiaa
