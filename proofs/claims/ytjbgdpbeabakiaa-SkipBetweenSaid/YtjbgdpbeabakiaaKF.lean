/- Chapter 11: contracts of skip.Next, of the law's pair and alive (Blank's contract is handed in). -/
import Derived.Test.YtjbgdpbeabakiaaKD
import Derived.Test.YtjbgdpbeabakiaaS5
namespace Go.Proofs.Ytjbgdpbeabakiaa
open Go.RowKit Go.Shelf
set_option linter.unusedVariables false
set_option linter.unusedSimpArgs false
def nextV (n l h p : Int) : Value := if stOk n l h && inR p (-8) 8 then if n = 0 then .tuple #[.agg #[.int .i64 0, .int .i64 0, .int .i64 0], .int .i64 9] else .tuple #[.agg #[.int .i64 (n - 1), .int .i64 (nextL l h p), .int .i64 (nextH h p)], .int .i64 0] else .tuple #[.agg #[.int .i64 0, .int .i64 0, .int .i64 0], .int .i64 2]
set_option maxHeartbeats 1000000 in
set_option maxRecDepth 100000 in
theorem Next_c (n l h p : Int) (w : World) : Calls Try.prog 10 #[.agg #[.int .i64 n, .int .i64 l, .int .i64 h], .int .i64 p] w fun e w' => e = .returned (nextV n l h p) ∧ Below w.heap.size w w' := by
  have K1 := Aside.mk (fun w => CheckState_c n l h w)
  have HB0 : Below w.heap.size w ((w.alloc (.cells #[.int .i64 n, .int .i64 l, .int .i64 h] 27)).alloc (.cells #[.int .i64 0, .int .i64 0, .int .i64 0] 27)) := (by repeat (with_reducible first | exact Below.refl _ _ | assumption | refine Below.al ?_ _ | refine Below.dr ?_ | refine Below.drn ?_ _ | refine Below.sc ?_ (by simp <;> omega) _ | refine Below.th ?_ (by assumption)))
  have X0 : Blk ((w.alloc (.cells #[.int .i64 n, .int .i64 l, .int .i64 h] 27)).alloc (.cells #[.int .i64 0, .int .i64 0, .int .i64 0] 27)) w.heap.size #[.int .i64 n, .int .i64 l, .int .i64 h] 27 := (Blk.fresh _ _ _).al _
  have X1 : Blk ((w.alloc (.cells #[.int .i64 n, .int .i64 l, .int .i64 h] 27)).alloc (.cells #[.int .i64 0, .int .i64 0, .int .i64 0] 27)) (w.heap.size + 1) #[.int .i64 0, .int .i64 0, .int .i64 0] 27 := Blk.fresh' (by simp)
  have hcase : stOk n l h = false ∨ (stOk n l h = true ∧ inR p (-8) 8 = false) ∨ (stOk n l h = true ∧ inR p (-8) 8 = true ∧ n = 0) ∨ (stOk n l h = true ∧ inR p (-8) 8 = true ∧ ¬ n = 0) := by
    cases stOk n l h <;> cases inR p (-8) 8 <;> by_cases hn : n = 0 <;> simp [hn]
  have tail : ∀ v : World, Blk v (w.heap.size + 1) #[.int .i64 0, .int .i64 0, .int .i64 0] 27 → (v.cell? ⟨w.heap.size + 1, 0, none⟩ = some (.int .i64 0) ∧ v.cell? ⟨w.heap.size + 1, 1, none⟩ = some (.int .i64 0) ∧ v.cell? ⟨w.heap.size + 1, 2, none⟩ = some (.int .i64 0)) ∧ v.frozen? ⟨w.heap.size + 1, 0, none⟩ = false ∧ v.frozen? ⟨w.heap.size + 1, 1, none⟩ = false ∧ v.frozen? ⟨w.heap.size + 1, 2, none⟩ = false := fun v h =>
    ⟨⟨by rw [h.cell]; rfl, by rw [h.cell]; rfl, by rw [h.cell]; rfl⟩, h.frozen 0, h.frozen 1, h.frozen 2⟩
  have TL := Aside.mk tail
  clear tail
  rcases hcase with e1 | ⟨e1, e2⟩ | ⟨e1, e2, rfl⟩ | ⟨e1, e2, hn⟩
  · have HE := Lib.hid (show nextV n l h p = .tuple #[.agg #[.int .i64 0, .int .i64 0, .int .i64 0], .int .i64 2] by simp [nextV, e1])
    rw [e1, eArg] at K1
    go_enter Try.func10, Try.ntmps10
    go_wp2_with fail
    generalize (w.alloc (.cells #[.int .i64 n, .int .i64 l, .int .i64 h] 27)).alloc (.cells #[.int .i64 0, .int .i64 0, .int .i64 0] 27) = v at *
    refine (K1.out _).mono ?_
    rintro e w' ⟨rfl, zb⟩
    obtain ⟨⟨x0, x1, x2⟩, f0, f1, f2⟩ := TL.out _ (X1.be zb)
    have HB := Below.th HB0 zb
    clear zb HB0 X0 X1 e1
    go_wp2
    refine bodyPost_ret (v := .tuple #[.agg #[.int .i64 0, .int .i64 0, .int .i64 0], .int .i64 2]) (by simp [x0, x1, x2, results, Try.results10, go_sem]) rfl ?_
    exact ⟨by rw [HE.out], (by repeat (with_reducible first | exact Below.refl _ _ | assumption | refine Below.al ?_ _ | refine Below.dr ?_ | refine Below.drn ?_ _ | refine Below.sc ?_ (by simp <;> omega) _ | refine Below.th ?_ (by assumption)))⟩
  · have HE := Lib.hid (show nextV n l h p = .tuple #[.agg #[.int .i64 0, .int .i64 0, .int .i64 0], .int .i64 2] by simp [nextV, e2])
    rw [e1, eArg] at K1
    go_enter Try.func10, Try.ntmps10
    go_wp2_with fail
    generalize (w.alloc (.cells #[.int .i64 n, .int .i64 l, .int .i64 h] 27)).alloc (.cells #[.int .i64 0, .int .i64 0, .int .i64 0] 27) = v at *
    refine (K1.out _).mono ?_
    rintro e w' ⟨rfl, zb⟩
    obtain ⟨⟨x0, x1, x2⟩, f0, f1, f2⟩ := TL.out _ (X1.be zb)
    have HB := Below.th HB0 zb
    clear zb HB0 X0 X1 e1
    go_wp2_with (go_at_call 24; refine (skip_within_c _ _ _ _).mono ?_; rintro e w' ⟨rfl, rfl⟩)
    refine bodyPost_ret (v := .tuple #[.agg #[.int .i64 0, .int .i64 0, .int .i64 0], .int .i64 2]) (by simp [x0, x1, x2, results, Try.results10, go_sem]) rfl ?_
    exact ⟨by rw [HE.out], (by repeat (with_reducible first | exact Below.refl _ _ | assumption | refine Below.al ?_ _ | refine Below.dr ?_ | refine Below.drn ?_ _ | refine Below.sc ?_ (by simp <;> omega) _ | refine Below.th ?_ (by assumption)))⟩
  · have HE := Lib.hid (show nextV 0 l h p = .tuple #[.agg #[.int .i64 0, .int .i64 0, .int .i64 0], .int .i64 9] by simp [nextV, e1, e2])
    rw [e1, eArg] at K1
    go_enter Try.func10, Try.ntmps10
    go_wp2_with fail
    generalize (w.alloc (.cells #[.int .i64 0, .int .i64 l, .int .i64 h] 27)).alloc (.cells #[.int .i64 0, .int .i64 0, .int .i64 0] 27) = v at *
    refine (K1.out _).mono ?_
    rintro e w' ⟨rfl, zb⟩
    obtain ⟨⟨x0, x1, x2⟩, f0, f1, f2⟩ := TL.out _ (X1.be zb)
    have y0 := ((X0.be zb).cell 0).trans (show _ = some (.int .i64 0) from rfl)
    have HB := Below.th HB0 zb
    clear zb HB0 X0 X1 e1
    go_wp2_with (go_at_call 24; refine (skip_within_c _ _ _ _).mono ?_; rintro e w' ⟨rfl, rfl⟩)
    refine bodyPost_ret (v := .tuple #[.agg #[.int .i64 0, .int .i64 0, .int .i64 0], .int .i64 9]) (by simp [x0, x1, x2, results, Try.results10, go_sem]) rfl ?_
    exact ⟨by rw [HE.out], (by repeat (with_reducible first | exact Below.refl _ _ | assumption | refine Below.al ?_ _ | refine Below.dr ?_ | refine Below.drn ?_ _ | refine Below.sc ?_ (by simp <;> omega) _ | refine Below.th ?_ (by assumption)))⟩
  · have HE := Lib.hid (show nextV n l h p = .tuple #[.agg #[.int .i64 (n - 1), .int .i64 (nextL l h p), .int .i64 (nextH h p)], .int .i64 0] by simp [nextV, e1, e2, hn])
    obtain ⟨⟨n0, n1⟩, ⟨l0, l1⟩, hh⟩ := stOk_iff e1
    obtain ⟨p0, p1⟩ := inR_iff.1 e2
    have KN := Aside.mk (fun w => next_c n l h p w n0 n1 l0 l1 hh p0 p1)
    have hz : (n == 0) = false := by simp [hn]
    rw [e1, eArg] at K1
    go_enter Try.func10, Try.ntmps10
    go_wp2_with fail
    generalize (w.alloc (.cells #[.int .i64 n, .int .i64 l, .int .i64 h] 27)).alloc (.cells #[.int .i64 0, .int .i64 0, .int .i64 0] 27) = v at *
    refine (K1.out _).mono ?_
    rintro e w' ⟨rfl, zb⟩
    have X0 := X0.be zb
    have y0 := (X0.cell 0).trans (show _ = some (.int .i64 n) from rfl)
    have y1 := (X0.cell 1).trans (show _ = some (.int .i64 l) from rfl)
    have y2 := (X0.cell 2).trans (show _ = some (.int .i64 h) from rfl)
    have X1 := X1.be zb
    have HB := Below.th HB0 zb
    clear zb HB0 X0 e1 hh
    go_wp2_with (go_at_call 24; refine (skip_within_c _ _ _ _).mono ?_; rintro e w' ⟨rfl, rfl⟩)
    refine (KN.out _).mono ?_
    rintro e w2 ⟨rfl, zb⟩
    obtain ⟨⟨x0, x1, x2⟩, f0, f1, f2⟩ := TL.out _ (X1.be zb)
    have HB := Below.th HB zb
    clear zb X1
    go_wp2
    refine bodyPost_ret (v := .tuple #[.agg #[.int .i64 (n - 1), .int .i64 (nextL l h p), .int .i64 (nextH h p)], .int .i64 0]) (by simp [x0, x1, x2, results, Try.results10, go_sem]) rfl ?_
    exact ⟨by rw [HE.out], (by repeat (with_reducible first | exact Below.refl _ _ | assumption | refine Below.al ?_ _ | refine Below.dr ?_ | refine Below.drn ?_ _ | refine Below.sc ?_ (by simp <;> omega) _ | refine Below.th ?_ (by assumption)))⟩
def cP : List Int := [0, 0, 0, 0, 0, 0, 0, 0, 0, 1, 0, 0, 0, 0, 0, 0, 0]
def pairR : Riv := ⟨[cP], [cP], 1⟩
set_option maxHeartbeats 1000000 in
set_option maxRecDepth 100000 in
theorem pair_c (w : World) : Calls Try.prog 22 #[] w fun e w' => ∃ A0 A1, e = .returned (rivV pairR A0 A1 1 1) ∧ Args w' A0 A1 pairR ∧ Below w.heap.size w w' := by
  have hmk : ∀ w : World, (Instr.makeSlice 53 (.int .i64 17) (.int .i64 17)).run Try.prog w = .ok (.slice (some ⟨w.heap.size, 0, none⟩) 17 17) (w.alloc (.cells #[.int .i64 0, .int .i64 0, .int .i64 0, .int .i64 0, .int .i64 0, .int .i64 0, .int .i64 0, .int .i64 0, .int .i64 0, .int .i64 0, .int .i64 0, .int .i64 0, .int .i64 0, .int .i64 0, .int .i64 0, .int .i64 0, .int .i64 0] 3)) := fun _ => by kernel_rfl
  go_enter Try.func22, Try.ntmps22
  go_wp2
  refine bodyPost_ret (v := rivV pairR (some ⟨w.heap.size + 1 + 1, 0, none⟩) (some ⟨w.heap.size + 1 + 1 + 1, 0, none⟩) 1 1) (by simp [results, Try.results22, go_sem, rivV, pairR]) rfl ?_
  have HB : Below w.heap.size w ((((w.alloc (.cells #[.int .i64 1, .slice (some ⟨w.heap.size + 1 + 1, 0, none⟩) 1 1, .slice (some ⟨w.heap.size + 1 + 1 + 1, 0, none⟩) 1 1] 25)).alloc (.cells #[.int .i64 0, .int .i64 0, .int .i64 0, .int .i64 0, .int .i64 0, .int .i64 0, .int .i64 0, .int .i64 0, .int .i64 0, .int .i64 1, .int .i64 0, .int .i64 0, .int .i64 0, .int .i64 0, .int .i64 0, .int .i64 0, .int .i64 0] 3)).alloc (.cells #[.slice (some ⟨w.heap.size + 1, 0, none⟩) 17 17] 53)).alloc (.cells #[.slice (some ⟨w.heap.size + 1, 0, none⟩) 17 17] 53)) := (by repeat (with_reducible first | exact Below.refl _ _ | assumption | refine Below.al ?_ _ | refine Below.dr ?_ | refine Below.drn ?_ _ | refine Below.sc ?_ (by simp <;> omega) _ | refine Below.th ?_ (by assumption)))
  have C : Blk ((((w.alloc (.cells #[.int .i64 1, .slice (some ⟨w.heap.size + 1 + 1, 0, none⟩) 1 1, .slice (some ⟨w.heap.size + 1 + 1 + 1, 0, none⟩) 1 1] 25)).alloc (.cells #[.int .i64 0, .int .i64 0, .int .i64 0, .int .i64 0, .int .i64 0, .int .i64 0, .int .i64 0, .int .i64 0, .int .i64 0, .int .i64 1, .int .i64 0, .int .i64 0, .int .i64 0, .int .i64 0, .int .i64 0, .int .i64 0, .int .i64 0] 3)).alloc (.cells #[.slice (some ⟨w.heap.size + 1, 0, none⟩) 17 17] 53)).alloc (.cells #[.slice (some ⟨w.heap.size + 1, 0, none⟩) 17 17] 53)) (w.heap.size + 1) #[.int .i64 0, .int .i64 0, .int .i64 0, .int .i64 0, .int .i64 0, .int .i64 0, .int .i64 0, .int .i64 0, .int .i64 0, .int .i64 1, .int .i64 0, .int .i64 0, .int .i64 0, .int .i64 0, .int .i64 0, .int .i64 0, .int .i64 0] 3 := ((Blk.fresh' (by simp)).al _).al _
  have D0 : Blk ((((w.alloc (.cells #[.int .i64 1, .slice (some ⟨w.heap.size + 1 + 1, 0, none⟩) 1 1, .slice (some ⟨w.heap.size + 1 + 1 + 1, 0, none⟩) 1 1] 25)).alloc (.cells #[.int .i64 0, .int .i64 0, .int .i64 0, .int .i64 0, .int .i64 0, .int .i64 0, .int .i64 0, .int .i64 0, .int .i64 0, .int .i64 1, .int .i64 0, .int .i64 0, .int .i64 0, .int .i64 0, .int .i64 0, .int .i64 0, .int .i64 0] 3)).alloc (.cells #[.slice (some ⟨w.heap.size + 1, 0, none⟩) 17 17] 53)).alloc (.cells #[.slice (some ⟨w.heap.size + 1, 0, none⟩) 17 17] 53)) (w.heap.size + 1 + 1) #[.slice (some ⟨w.heap.size + 1, 0, none⟩) 17 17] 53 := (Blk.fresh' (by simp)).al _
  have D1 : Blk ((((w.alloc (.cells #[.int .i64 1, .slice (some ⟨w.heap.size + 1 + 1, 0, none⟩) 1 1, .slice (some ⟨w.heap.size + 1 + 1 + 1, 0, none⟩) 1 1] 25)).alloc (.cells #[.int .i64 0, .int .i64 0, .int .i64 0, .int .i64 0, .int .i64 0, .int .i64 0, .int .i64 0, .int .i64 0, .int .i64 0, .int .i64 1, .int .i64 0, .int .i64 0, .int .i64 0, .int .i64 0, .int .i64 0, .int .i64 0, .int .i64 0] 3)).alloc (.cells #[.slice (some ⟨w.heap.size + 1, 0, none⟩) 17 17] 53)).alloc (.cells #[.slice (some ⟨w.heap.size + 1, 0, none⟩) 17 17] 53)) (w.heap.size + 1 + 1 + 1) #[.slice (some ⟨w.heap.size + 1, 0, none⟩) 17 17] 53 := Blk.fresh' (by simp)
  have A : ArrB ((((w.alloc (.cells #[.int .i64 1, .slice (some ⟨w.heap.size + 1 + 1, 0, none⟩) 1 1, .slice (some ⟨w.heap.size + 1 + 1 + 1, 0, none⟩) 1 1] 25)).alloc (.cells #[.int .i64 0, .int .i64 0, .int .i64 0, .int .i64 0, .int .i64 0, .int .i64 0, .int .i64 0, .int .i64 0, .int .i64 0, .int .i64 1, .int .i64 0, .int .i64 0, .int .i64 0, .int .i64 0, .int .i64 0, .int .i64 0, .int .i64 0] 3)).alloc (.cells #[.slice (some ⟨w.heap.size + 1, 0, none⟩) 17 17] 53)).alloc (.cells #[.slice (some ⟨w.heap.size + 1, 0, none⟩) 17 17] 53)).heap.size ((((w.alloc (.cells #[.int .i64 1, .slice (some ⟨w.heap.size + 1 + 1, 0, none⟩) 1 1, .slice (some ⟨w.heap.size + 1 + 1 + 1, 0, none⟩) 1 1] 25)).alloc (.cells #[.int .i64 0, .int .i64 0, .int .i64 0, .int .i64 0, .int .i64 0, .int .i64 0, .int .i64 0, .int .i64 0, .int .i64 0, .int .i64 1, .int .i64 0, .int .i64 0, .int .i64 0, .int .i64 0, .int .i64 0, .int .i64 0, .int .i64 0] 3)).alloc (.cells #[.slice (some ⟨w.heap.size + 1, 0, none⟩) 17 17] 53)).alloc (.cells #[.slice (some ⟨w.heap.size + 1, 0, none⟩) 17 17] 53)) (some ⟨w.heap.size + 1, 0, none⟩) (ints cP) := .inr ⟨w.heap.size + 1, 0, rfl, C.lt, fun i hi => by
    rw [Nat.zero_add, C.cell]
    show (ints cP).toArray[i]? = (ints cP)[i]?
    simp⟩
  refine ⟨_, _, rfl, ⟨.inr ⟨_, 0, rfl, D0.lt, fun i hi => ?_⟩, .inr ⟨_, 0, rfl, D1.lt, fun i hi => ?_⟩, fun i hi => ?_, fun i hi => ?_, by simp [pairR], by simp [pairR]⟩, HB⟩
  · obtain rfl : i = 0 := by simp [pairR] at hi; omega
    exact ⟨_, 17, by rw [D0.cell]; rfl, A⟩
  · obtain rfl : i = 0 := by simp [pairR] at hi; omega
    exact ⟨_, 17, by rw [D1.cell]; rfl, A⟩
  · obtain rfl : i = 0 := by simp [pairR] at hi; omega
    simp [pairR, cP]
  · obtain rfl : i = 0 := by simp [pairR] at hi; omega
    simp [pairR, cP]
def gainC (lo hi : Int) : Int := if 0 < lo then 1 else if hi < 0 then -1 else 0
def gainW (a b : Int × Int) : Value := .tuple #[.int .i64 (a.1 - b.2), .int .i64 (a.2 - b.1), .int .i64 (gainC (a.1 - b.2) (a.2 - b.1)), .int .i64 0]
def blankW (m : Riv) (n l h : Int) : Value :=
  if rivOk m && stOk n l h then
    if n = 0 then .tuple #[.int .i64 0, .int .i64 0, .int .i64 0, .int .i64 9] else
    if h = 1 then gainW (stepH m n.toNat l h 1) (stepH m n.toNat l h 0) else gainW (stepH m n.toNat l h 0) (stepH m n.toNat l h 1)
  else .tuple #[.int .i64 0, .int .i64 0, .int .i64 0, .int .i64 2]
/-- Blank's contract, handed in: its proof stands in a text of its own -/
def BlankOk : Prop := ∀ (A0 A1 : Option Addr) (c0 c1 : Nat) (m : Riv) (n l h : Int) (w : World), Args w A0 A1 m →
    Calls Try.prog 23 #[rivV m A0 A1 c0 c1, .agg #[.int .i64 n, .int .i64 l, .int .i64 h]] w fun e w' => e = .returned (blankW m n l h) ∧ Below w.heap.size w w'
theorem next_al : nextV 2 0 0 3 = .tuple #[.agg #[.int .i64 1, .int .i64 3, .int .i64 1], .int .i64 0] := by rfl
theorem value_al : valueV pairR 1 1 1 = .tuple #[.agg #[.int .i64 16384, .int .i64 65536], .int .i64 0] := by kernel_rfl
theorem blank_al : blankW pairR 2 0 0 = .tuple #[.int .i64 (-32768), .int .i64 49152, .int .i64 0, .int .i64 0] := by kernel_rfl
set_option maxHeartbeats 1000000 in
set_option maxRecDepth 100000 in
theorem alive_c (hB : BlankOk) (w : World) : Calls Try.prog 9 #[] w fun e w' => e = .returned (.bool true) ∧ Below w.heap.size w w' := by
  have K1 := Aside.mk (fun w => Next_c 2 0 0 3 w)
  have K2 := Aside.mk (fun A0 A1 w ha => Value_c A0 A1 1 1 pairR 1 1 1 w ha)
  have K3 := Aside.mk (fun A0 A1 w ha => hB A0 A1 1 1 pairR 2 0 0 w ha)
  rw [next_al] at K1
  rw [value_al] at K2
  rw [blank_al] at K3
  clear hB
  go_enter Try.func9, Try.ntmps9
  go_wp2_with fail
  refine (K1.out _).mono ?_
  rintro e v1 ⟨rfl, zb⟩
  have HB := Below.al zb (.cells #[.int .i64 1, .int .i64 3, .int .i64 1] 27)
  have X1 := Blk.fresh v1 #[.int .i64 1, .int .i64 3, .int .i64 1] 27
  clear zb K1
  go_wp2_with fail
  refine (pair_c _).mono ?_
  rintro e v2 ⟨A0, A1, rfl, ha, zb⟩
  have HB := Below.th HB zb
  have X1 := X1.be zb
  clear zb
  go_wp2_with fail
  refine (K2.out _ _ _ ha).mono ?_
  rintro e v3 ⟨rfl, zb⟩
  have HB := Below.al (Below.th HB zb) (.cells #[.int .i64 16384, .int .i64 65536] 43)
  have X1 := (X1.be zb).al (.cells #[.int .i64 16384, .int .i64 65536] 43)
  have X2 := Blk.fresh v3 #[.int .i64 16384, .int .i64 65536] 43
  clear zb K2 ha
  go_wp2_with fail
  refine (pair_c _).mono ?_
  rintro e v4 ⟨A0, A1, rfl, ha, zb⟩
  have HB := Below.th HB zb
  have X1 := X1.be zb
  have X2 := X2.be zb
  clear zb
  go_wp2_with fail
  refine (K3.out _ _ _ ha).mono ?_
  rintro e v5 ⟨rfl, zb⟩
  have HB := Below.th HB zb
  have X1 := X1.be zb
  have X2 := X2.be zb
  clear zb K3 ha
  have x0 := (X1.cell 0).trans (show _ = some (.int .i64 1) from rfl)
  have x1 := (X1.cell 1).trans (show _ = some (.int .i64 3) from rfl)
  have x2 := (X1.cell 2).trans (show _ = some (.int .i64 1) from rfl)
  have y0 := (X2.cell 0).trans (show _ = some (.int .i64 16384) from rfl)
  have y1 := (X2.cell 1).trans (show _ = some (.int .i64 65536) from rfl)
  go_wp2
  go_ret
  exact ⟨rfl, (by repeat (with_reducible first | exact Below.refl _ _ | assumption | refine Below.al ?_ _ | refine Below.dr ?_ | refine Below.drn ?_ _ | refine Below.sc ?_ (by simp <;> omega) _ | refine Below.th ?_ (by assumption)))⟩
end Go.Proofs.Ytjbgdpbeabakiaa
