/- Chapter 11: contract of skip.Blank. -/
import Derived.Test.YtjbgdpbeabakiaaKD
import Derived.Deep.DeepCutAuto
namespace Go.Proofs.Ytjbgdpbeabakiaa
open Go.RowKit Go.Shelf
set_option linter.unusedVariables false
set_option linter.unusedSimpArgs false
def gainB (lo hi : Int) : Int := if 0 < lo then 1 else if hi < 0 then -1 else 0
def gainV (a b : Int × Int) : Value := .tuple #[.int .i64 (a.1 - b.2), .int .i64 (a.2 - b.1), .int .i64 (gainB (a.1 - b.2) (a.2 - b.1)), .int .i64 0]
def blankV (m : Riv) (n l h : Int) : Value :=
  if rivOk m && stOk n l h then
    if n = 0 then .tuple #[.int .i64 0, .int .i64 0, .int .i64 0, .int .i64 9] else
    if h = 1 then gainV (stepH m n.toNat l h 1) (stepH m n.toNat l h 0) else gainV (stepH m n.toNat l h 0) (stepH m n.toNat l h 1)
  else .tuple #[.int .i64 0, .int .i64 0, .int .i64 0, .int .i64 2]
theorem cells_s {W : World} {sB : Nat} {m : Riv} {R : Rp} {n l h : Int} (k : Rk m R W) (s : Blk W sB #[.int .i64 n, .int .i64 l, .int .i64 h] 27) :
    W.cell? ⟨R.rb, 3, none⟩ = some (.func (.func 42) #[] #[.pointer (some ⟨R.kv, 0, none⟩), .pointer (some ⟨R.rv, 0, none⟩)]) ∧
      W.cell? ⟨sB, 0, none⟩ = some (.int .i64 n) ∧ W.cell? ⟨sB, 1, none⟩ = some (.int .i64 l) ∧ W.cell? ⟨sB, 2, none⟩ = some (.int .i64 h) :=
  ⟨by rw [k.r.cell]; rfl, by rw [s.cell]; rfl, by rw [s.cell]; rfl, by rw [s.cell]; rfl⟩
theorem cells_b {W W' : World} {sB B : Nat} {m : Riv} {R : Rp} {n l h : Int} (k : Rk m R W) (s : Blk W sB #[.int .i64 n, .int .i64 l, .int .i64 h] 27) (lt : R.rb < B ∧ R.rv < B ∧ R.kv < B ∧ R.mb < B) (hs : sB < B) (hb : Below B W W') :
    W'.cell? ⟨R.rb, 3, none⟩ = some (.func (.func 42) #[] #[.pointer (some ⟨R.kv, 0, none⟩), .pointer (some ⟨R.rv, 0, none⟩)]) ∧
      W'.cell? ⟨sB, 0, none⟩ = some (.int .i64 n) ∧ W'.cell? ⟨sB, 1, none⟩ = some (.int .i64 l) ∧ W'.cell? ⟨sB, 2, none⟩ = some (.int .i64 h) := cells_s (k.bel hb lt) (s.below hb hs)
theorem blk_facts {W : World} {b : Nat} {T : TypeId} (h : Blk W b #[.int .i64 0, .int .i64 0] T) : W.cell? ⟨b, 0, none⟩ = some (.int .i64 0) ∧ W.cell? ⟨b, 1, none⟩ = some (.int .i64 0) ∧ W.frozen? ⟨b, 0, none⟩ = false ∧ W.frozen? ⟨b, 1, none⟩ = false ∧ b < W.heap.size ∧ ¬ b = W.heap.size ∧ ¬ W.heap.size = b :=
  ⟨by rw [h.cell]; rfl, by rw [h.cell]; rfl, h.frozen 0, h.frozen 1, h.lt, by have := h.lt; omega, by have := h.lt; omega⟩
theorem blk_ne {W : World} {b b' : Nat} {cs cs' : Array Value} {T T' : TypeId} (h : Blk W b cs T) (h' : Blk W b' cs' T') (hlt : b < b') : ¬ b = b' ∧ ¬ b' = b := ⟨by omega, by omega⟩
theorem gain_bd {a b : Int × Int} (ha : InH a) (hb : InH b) : -65536 ≤ a.1 - b.2 ∧ a.1 - b.2 ≤ 65536 ∧ -65536 ≤ a.2 - b.1 ∧ a.2 - b.1 ≤ 65536 := by
  unfold InH at *; omega
set_option maxHeartbeats 4000000 in
set_option maxRecDepth 100000 in
theorem Blank_no (A0 A1 : Option Addr) (c0 c1 : Nat) (m : Riv) (n l h : Int) (w : World) (ha : Args w A0 A1 m) (hb : (rivOk m && stOk n l h) = false ∨ ((rivOk m && stOk n l h) = true ∧ n = 0)) :
    Calls Try.prog 23 #[rivV m A0 A1 c0 c1, .agg #[.int .i64 n, .int .i64 l, .int .i64 h]] w fun e w' => e = .returned (blankV m n l h) ∧ Below w.heap.size w w' := by
  have K1 := Aside.mk (fun w (ha : Args w A0 A1 m) => right_c A0 A1 c0 c1 m n l h w ha.ra ha.rb ha.sa ha.sb ha.la ha.lb)
  have HB0 : Below w.heap.size w ((w.alloc (.cells #[.int .i64 m.d, .slice A0 m.a.length c0, .slice A1 m.b.length c1] 25)).alloc (.cells #[.int .i64 n, .int .i64 l, .int .i64 h] 27)) := (by repeat (with_reducible first | exact Below.refl _ _ | assumption | refine Below.al ?_ _ | refine Below.dr ?_ | refine Below.drn ?_ _ | refine Below.sc ?_ (by simp <;> omega) _ | refine Below.th ?_ (by assumption)))
  have X1 : Blk ((w.alloc (.cells #[.int .i64 m.d, .slice A0 m.a.length c0, .slice A1 m.b.length c1] 25)).alloc (.cells #[.int .i64 n, .int .i64 l, .int .i64 h] 27)) (w.heap.size + 1) #[.int .i64 n, .int .i64 l, .int .i64 h] 27 := Blk.fresh' (by simp)
  have HA := ha.be HB0
  unfold rivV at *
  clear ha
  rcases hb with e1 | ⟨e1, rfl⟩
  · rw [e1] at K1
    have HE := Lib.hid (show blankV m n l h = .tuple #[.int .i64 0, .int .i64 0, .int .i64 0, .int .i64 2] by simp only [blankV]; rw [e1]; rfl)
    go_enter Try.func23, Try.ntmps23
    go_wp2_with fail
    generalize (w.alloc (.cells #[.int .i64 m.d, .slice A0 m.a.length c0, .slice A1 m.b.length c1] 25)).alloc (.cells #[.int .i64 n, .int .i64 l, .int .i64 h] 27) = v at *
    refine (K1.out _ HA).mono ?_
    rintro e w' ⟨rfl, zb⟩
    have hB1 := Below.th HB0 zb
    clear HA zb X1 HB0 e1
    go_wp2
    refine bodyPost_ret (v := .tuple #[.int .i64 0, .int .i64 0, .int .i64 0, .int .i64 2]) (by simp [results, Try.results23, go_sem]) rfl ?_
    exact ⟨by rw [HE.out], (by repeat (with_reducible first | exact Below.refl _ _ | assumption | refine Below.al ?_ _ | refine Below.dr ?_ | refine Below.drn ?_ _ | refine Below.sc ?_ (by simp <;> omega) _ | refine Below.th ?_ (by assumption)))⟩
  · rw [e1] at K1
    have HE := Lib.hid (show blankV m 0 l h = .tuple #[.int .i64 0, .int .i64 0, .int .i64 0, .int .i64 9] by simp only [blankV]; rw [e1]; rfl)
    go_enter Try.func23, Try.ntmps23
    go_wp2_with fail
    generalize (w.alloc (.cells #[.int .i64 m.d, .slice A0 m.a.length c0, .slice A1 m.b.length c1] 25)).alloc (.cells #[.int .i64 0, .int .i64 l, .int .i64 h] 27) = v at *
    refine (K1.out _ HA).mono ?_
    rintro e w' ⟨rfl, zb⟩
    have X1 := X1.be zb
    have y0 : w'.cell? ⟨w.heap.size + 1, 0, none⟩ = some (.int .i64 0) := by rw [X1.cell]; rfl
    have hB1 := Below.th HB0 zb
    clear HA zb X1 HB0 e1
    go_wp2
    refine bodyPost_ret (v := .tuple #[.int .i64 0, .int .i64 0, .int .i64 0, .int .i64 9]) (by simp [results, Try.results23, go_sem]) rfl ?_
    exact ⟨by rw [HE.out], (by repeat (with_reducible first | exact Below.refl _ _ | assumption | refine Below.al ?_ _ | refine Below.dr ?_ | refine Below.drn ?_ _ | refine Below.sc ?_ (by simp <;> omega) _ | refine Below.th ?_ (by assumption)))⟩
theorem al_two {B : Nat} {w : World} (s : B ≤ w.heap.size) (o o' : Obj) : Below B w ((w.alloc o).alloc o') := ((Below.refl B w).alloc s o).alloc (by simp; omega) o'
theorem hb_kept {w W w' : World} {m : Nat} (h : Below w.heap.size w W) (k : Kept m W w') (hm : w.heap.size ≤ m) : Below w.heap.size w w' := h.trans (k.below hm h.size)
theorem Blk.kept' {W W' : World} {m b B : Nat} {cs : Array Value} {T : TypeId} (h : Blk W b cs T) (hk : Kept m W W') (hm : m < B) (hb : B ≤ b) : Blk W' b cs T := h.kept hk (by omega)
theorem szB0 {w w' : World} {B : Nat} (s : B ≤ w.heap.size) (h : Below w.heap.size w w') : B ≤ w'.heap.size := by have := h.size; (try simp at this); omega
theorem szLB0 {w w' : World} (h : Below w.heap.size w w') : w.heap.size + 0 ≤ w'.heap.size := by have := h.size; (try simp at this); omega
theorem szB1 {w w' : World} {o : Obj} {B : Nat} (s : B ≤ w.heap.size) (h : Below (w.alloc o).heap.size (w.alloc o) w') : B ≤ w'.heap.size := by have := h.size; (try simp at this); omega
theorem szLB1 {w w' : World} {o : Obj} (h : Below (w.alloc o).heap.size (w.alloc o) w') : w.heap.size + 1 ≤ w'.heap.size := by have := h.size; (try simp at this); omega
theorem szB2 {w w' : World} {o o' : Obj} {B : Nat} (s : B ≤ w.heap.size) (h : Below ((w.alloc o).alloc o').heap.size ((w.alloc o).alloc o') w') : B ≤ w'.heap.size := by have := h.size; (try simp at this); omega
theorem szLB2 {w w' : World} {o o' : Obj} (h : Below ((w.alloc o).alloc o').heap.size ((w.alloc o).alloc o') w') : w.heap.size + 2 ≤ w'.heap.size := by have := h.size; (try simp at this); omega
theorem szK0 {w w' : World} {m : Nat} {B : Nat} (s : B ≤ w.heap.size) (h : Kept m w w') : B ≤ w'.heap.size := by have := h.size; (try simp at this); omega
theorem szLK0 {w w' : World} {m : Nat} (h : Kept m w w') : w.heap.size + 0 ≤ w'.heap.size := by have := h.size; (try simp at this); omega
theorem szK1 {w w' : World} {m : Nat} {o : Obj} {B : Nat} (s : B ≤ w.heap.size) (h : Kept m (w.alloc o) w') : B ≤ w'.heap.size := by have := h.size; (try simp at this); omega
theorem szLK1 {w w' : World} {m : Nat} {o : Obj} (h : Kept m (w.alloc o) w') : w.heap.size + 1 ≤ w'.heap.size := by have := h.size; (try simp at this); omega
theorem szK2 {w w' : World} {m : Nat} {o o' : Obj} {B : Nat} (s : B ≤ w.heap.size) (h : Kept m ((w.alloc o).alloc o') w') : B ≤ w'.heap.size := by have := h.size; (try simp at this); omega
theorem szLK2 {w w' : World} {m : Nat} {o o' : Obj} (h : Kept m ((w.alloc o).alloc o') w') : w.heap.size + 2 ≤ w'.heap.size := by have := h.size; (try simp at this); omega
theorem szD0 {w w' : World} {B : Nat} (s : B ≤ w.heap.size) (h : Below w.drew.heap.size w.drew w') : B ≤ w'.heap.size := by have := h.size; (try simp at this); omega
theorem szLD0 {w w' : World} (h : Below w.drew.heap.size w.drew w') : w.heap.size + 0 ≤ w'.heap.size := by have := h.size; (try simp at this); omega
theorem szD1 {w w' : World} {o : Obj} {B : Nat} (s : B ≤ w.heap.size) (h : Below (w.alloc o).drew.heap.size (w.alloc o).drew w') : B ≤ w'.heap.size := by have := h.size; (try simp at this); omega
theorem szLD1 {w w' : World} {o : Obj} (h : Below (w.alloc o).drew.heap.size (w.alloc o).drew w') : w.heap.size + 1 ≤ w'.heap.size := by have := h.size; (try simp at this); omega
theorem szD2 {w w' : World} {o o' : Obj} {B : Nat} (s : B ≤ w.heap.size) (h : Below ((w.alloc o).alloc o').drew.heap.size ((w.alloc o).alloc o').drew w') : B ≤ w'.heap.size := by have := h.size; (try simp at this); omega
theorem szLD2 {w w' : World} {o o' : Obj} (h : Below ((w.alloc o).alloc o').drew.heap.size ((w.alloc o).alloc o').drew w') : w.heap.size + 2 ≤ w'.heap.size := by have := h.size; (try simp at this); omega
/-- what the two askings leave -/
def BlankMid (a b : Int × Int) (w : World) (k : Nat) (l h : Int) (s9 s10 : Value) (wx : World) : Prop :=
  ∃ ba bb, s9 = .pointer (some ⟨ba, 0, none⟩) ∧ s10 = .pointer (some ⟨bb, 0, none⟩) ∧ Blk wx ba #[.int .i64 a.1, .int .i64 a.2] 43 ∧ Blk wx bb #[.int .i64 b.1, .int .i64 b.2] 43 ∧ ba ≠ bb ∧ (w.heap.size ≤ ba ∧ w.heap.size ≤ bb) ∧ Below w.heap.size w wx ∧ Blk wx (w.heap.size + 1) #[.int .i64 ((k : Int) + 1), .int .i64 l, .int .i64 h] 27
theorem put2 {W : World} {b : Nat} {cs : Array Value} {T : TypeId} {x y : Value} (h : Blk W b cs T) (hcs : cs.size = 2) : Blk ((W.setCell ⟨b, 0, none⟩ x).setCell ⟨b, 1, none⟩ y) b #[x, y] T := by
  have := (h.set 0 x).set 1 y
  obtain ⟨l⟩ := cs
  match l, hcs with
  | [_, _], _ => simpa using this
theorem oth2 {W : World} {b b' : Nat} {cs : Array Value} {T : TypeId} {x y : Value} (h : Blk W b cs T) (hne : b ≠ b') : Blk ((W.setCell ⟨b', 0, none⟩ x).setCell ⟨b', 1, none⟩ y) b cs T := (h.other _ _ hne).other _ _ hne
set_option maxHeartbeats 100000000 in
set_option maxRecDepth 100000 in
theorem Blank_yes (A0 A1 : Option Addr) (c0 c1 : Nat) (m : Riv) (k : Nat) (l h : Int) (w : World) (ha : Args w A0 A1 m) (em : rivOk m = true) (k12 : k + 1 ≤ 12) (l0 : -96 ≤ l) (l1 : l ≤ 96) (hh : h = 0 ∨ h = 1) :
    Calls Try.prog 23 #[rivV m A0 A1 c0 c1, .agg #[.int .i64 ((k : Int) + 1), .int .i64 l, .int .i64 h]] w fun e w' => e = .returned (blankV m ((k : Int) + 1) l h) ∧ Below w.heap.size w w' := by
  have es : stOk ((k : Int) + 1) l h = true := by simp only [stOk, Bool.and_eq_true, inR_iff]; omega
  have K1 := Aside.mk (fun w (ha : Args w A0 A1 m) => right_c A0 A1 c0 c1 m ((k : Int) + 1) l h w ha.ra ha.rb ha.sa ha.sb ha.la ha.lb)
  rw [em, es] at K1
  have K2 := Aside.mk (fun w (ha : Args w A0 A1 m) => reckon_c A0 A1 c0 c1 m w ha.ra ha.rb)
  have KN0 := Aside.mk (fun (w : World) => next_c ((k : Int) + 1) l h 0 w (by omega) (by omega) l0 l1 hh (by omega) (by omega))
  have KN1 := Aside.mk (fun (w : World) => next_c ((k : Int) + 1) l h 1 w (by omega) (by omega) l0 l1 hh (by omega) (by omega))
  rw [show ((k : Int) + 1 - 1) = k by omega] at KN0 KN1
  have KH : Aside (∀ (p : Int) (R : Rp) (w : World), Rk m R w → Calls Try.prog 42 #[.agg #[.int .i64 k, .int .i64 (nextL l h p), .int .i64 (nextH h p)], .pointer (some ⟨R.kv, 0, none⟩), .pointer (some ⟨R.rv, 0, none⟩)] w fun e w' => e = .returned (.agg #[.int .i64 (stepH m (k + 1) l h p).1, .int .i64 (stepH m (k + 1) l h p).2]) ∧ Kept R.mb w w' ∧ Rk m R w') := ⟨fun p R w hk => hope_ok m em R k (by omega) (nextL l h p) (nextH h p) w (nextL_bd l h p).1 (nextL_bd l h p).2 (nextH_bd p hh) hk⟩
  have HE := Aside.mk (show blankV m ((k : Int) + 1) l h = if h = 1 then gainV (stepH m (k + 1) l h 1) (stepH m (k + 1) l h 0) else gainV (stepH m (k + 1) l h 0) (stepH m (k + 1) l h 1) by
    simp only [blankV, em, es]; rw [if_pos (by rfl), if_neg (by omega), show ((k : Int) + 1).toNat = k + 1 by omega])
  have I0 := stepH_in em (k + 1) l h 0
  have I1 := stepH_in em (k + 1) l h 1
  have G := Aside.mk (And.intro (gain_bd I0 I1) (gain_bd I1 I0))
  have KH0 := Aside.mk (KH.out 0)
  have KH1 := Aside.mk (KH.out 1)
  generalize stepH m (k + 1) l h 0 = a at *
  generalize stepH m (k + 1) l h 1 = b at *
  have HB0 : Below w.heap.size w ((w.alloc (.cells #[.int .i64 m.d, .slice A0 m.a.length c0, .slice A1 m.b.length c1] 25)).alloc (.cells #[.int .i64 ((k : Int) + 1), .int .i64 l, .int .i64 h] 27)) := (by repeat (with_reducible first | exact Below.refl _ _ | assumption | refine Below.al ?_ _ | refine Below.dr ?_ | refine Below.drn ?_ _ | refine Below.sc ?_ (by simp <;> omega) _ | refine Below.th ?_ (by assumption)))
  have X0 : Blk ((w.alloc (.cells #[.int .i64 m.d, .slice A0 m.a.length c0, .slice A1 m.b.length c1] 25)).alloc (.cells #[.int .i64 ((k : Int) + 1), .int .i64 l, .int .i64 h] 27)) w.heap.size #[.int .i64 m.d, .slice A0 m.a.length c0, .slice A1 m.b.length c1] 25 := (Blk.fresh _ _ _).al _
  have X1 : Blk ((w.alloc (.cells #[.int .i64 m.d, .slice A0 m.a.length c0, .slice A1 m.b.length c1] 25)).alloc (.cells #[.int .i64 ((k : Int) + 1), .int .i64 l, .int .i64 h] 27)) (w.heap.size + 1) #[.int .i64 ((k : Int) + 1), .int .i64 l, .int .i64 h] 27 := Blk.fresh' (by simp)
  have HA := ha.be HB0
  unfold rivV at *
  have HHH := Lib.hid hh
  clear ha em es KH I0 I1 hh
  go_enter Try.func23, Try.ntmps23
  go_wp2_with fail
  generalize (w.alloc (.cells #[.int .i64 m.d, .slice A0 m.a.length c0, .slice A1 m.b.length c1] 25)).alloc (.cells #[.int .i64 ((k : Int) + 1), .int .i64 l, .int .i64 h] 27) = v at *
  refine (K1.out _ HA).mono ?_
  rintro e w' ⟨rfl, zb⟩
  have X0 := X0.be zb
  have X1 := X1.be zb
  have HA := HA.be zb
  have hB1 := Below.th HB0 zb
  have x0 : w'.cell? ⟨w.heap.size, 0, none⟩ = some (.int .i64 m.d) := by rw [X0.cell]; rfl
  have x1 : w'.cell? ⟨w.heap.size, 1, none⟩ = some (.slice A0 m.a.length c0) := by rw [X0.cell]; rfl
  have x2 : w'.cell? ⟨w.heap.size, 2, none⟩ = some (.slice A1 m.b.length c1) := by rw [X0.cell]; rfl
  have y0 : w'.cell? ⟨w.heap.size + 1, 0, none⟩ = some (.int .i64 ((k : Int) + 1)) := by rw [X1.cell]; rfl
  clear zb HB0
  go_wp2_with fail
  refine (K2.out _ HA).mono ?_
  rintro e wn ⟨rfl, hkn, zbn⟩
  have hBn := Below.th hB1 zbn
  have X1 := X1.be zbn
  have hmb : w'.heap.size + 3 < wn.heap.size := by simpa [rpOf] using hkn.memo.lt
  have hw1 := hB1.size
  have hw2 := X0.lt
  clear x0 x1 x2 y0 zbn X0 HA
  obtain ⟨R, hR⟩ : ∃ R, rpOf w'.heap.size A0 A1 c0 c1 = R := ⟨_, rfl⟩
  have r1 : R.rb = w'.heap.size + 1 := by rw [← hR]; rfl
  have r2 : R.mb = w'.heap.size + 3 := by rw [← hR]; rfl
  rw [hR] at hkn
  rw [← r1]
  clear hR
  have NE : w.heap.size + 1 ≠ R.mb := by omega
  have hmn : R.mb < wn.heap.size := by omega
  have hmw : w.heap.size ≤ R.mb := by omega
  have LTN := Aside.mk hkn.lts
  have ZLT : w.heap.size + 1 < wn.heap.size := by omega
  have s0 : wn.heap.size ≤ wn.heap.size := Nat.le_refl _
  have R1 := Lib.hid r1
  have R2 := Lib.hid r2
  clear r1 r2
  have hkn' := hkn.be (Below.dr (Below.refl _ _))
  have c0' := cells_s hkn X1
  obtain ⟨c00, c01, c02, c03⟩ := c0'
  have c0' := cells_s hkn' X1.dr
  go_upto_region 6 with fail
  go_cut [9, 10] (fun s9 s10 wx => BlankMid a b w k l h s9 s10 wx)
  case first =>
    go_region_held3 (fun W => W.cell? ⟨R.rb, 3, none⟩ = some (.func (.func 42) #[] #[.pointer (some ⟨R.kv, 0, none⟩), .pointer (some ⟨R.rv, 0, none⟩)]) ∧
        W.cell? ⟨w.heap.size + 1, 0, none⟩ = some (.int .i64 ((k : Int) + 1)) ∧ W.cell? ⟨w.heap.size + 1, 1, none⟩ = some (.int .i64 l) ∧ W.cell? ⟨w.heap.size + 1, 2, none⟩ = some (.int .i64 h))
      (first
        | (with_reducible exact cells_b hk4 Z4 LTN.out ZLT (Below.refl _ _))
        | (with_reducible exact cells_b hk4 Z4 LTN.out ZLT (Below.alloc (Below.refl _ _) s4 _))
        | (with_reducible exact cells_b hk4 Z4 LTN.out ZLT (al_two s4 _ _))
        | (with_reducible exact cells_b hk3 Z3 LTN.out ZLT (Below.refl _ _))
        | (with_reducible exact cells_b hk3 Z3 LTN.out ZLT (Below.alloc (Below.refl _ _) s3 _))
        | (with_reducible exact cells_b hk3 Z3 LTN.out ZLT (al_two s3 _ _))
        | (with_reducible exact cells_b hk2 Z2 LTN.out ZLT (Below.refl _ _))
        | (with_reducible exact cells_b hk2 Z2 LTN.out ZLT (Below.alloc (Below.refl _ _) s2 _))
        | (with_reducible exact cells_b hk2 Z2 LTN.out ZLT (al_two s2 _ _))
        | (with_reducible exact cells_b hk1 Z1 LTN.out ZLT (Below.refl _ _))
        | (with_reducible exact cells_b hk1 Z1 LTN.out ZLT (Below.alloc (Below.refl _ _) s1 _))
        | (with_reducible exact cells_b hk1 Z1 LTN.out ZLT (al_two s1 _ _))
        | (with_reducible exact cells_b hkn X1 LTN.out ZLT (Below.drew (Below.refl _ _)))
        | (with_reducible exact cells_b hkn X1 LTN.out ZLT (Below.drew (Below.alloc (Below.refl _ _) s0 _)))
        | (with_reducible exact cells_b hkn X1 LTN.out ZLT (Below.drew (al_two s0 _ _)))
        | ((with_reducible refine cells_b hk4 Z4 LTN.out ZLT ?_); (with_reducible refine Below.setCell ?_ ?_ _); rotate_left; (focus (first | omega | (simp; done) | (simp; omega))); (with_reducible refine Below.setCell ?_ ?_ _); rotate_left; (focus (first | omega | (simp; done) | (simp; omega))); (with_reducible exact Below.refl _ _))
        | ((with_reducible refine cells_b hk4 Z4 LTN.out ZLT ?_); (with_reducible refine Below.setCell ?_ ?_ _); rotate_left; (focus (first | omega | (simp; done) | (simp; omega))); (with_reducible refine Below.setCell ?_ ?_ _); rotate_left; (focus (first | omega | (simp; done) | (simp; omega))); (with_reducible refine Below.setCell ?_ ?_ _); rotate_left; (focus (first | omega | (simp; done) | (simp; omega))); (with_reducible refine Below.setCell ?_ ?_ _); rotate_left; (focus (first | omega | (simp; done) | (simp; omega))); (with_reducible exact Below.refl _ _))
        | ((with_reducible refine cells_b hk4 Z4 LTN.out ZLT ?_); (with_reducible refine Below.alloc ?_ ?_ _); rotate_left; (focus (first | omega | (simp; done) | (simp; omega))); (with_reducible refine Below.setCell ?_ ?_ _); rotate_left; (focus (first | omega | (simp; done) | (simp; omega))); (with_reducible refine Below.setCell ?_ ?_ _); rotate_left; (focus (first | omega | (simp; done) | (simp; omega))); (with_reducible exact Below.refl _ _))
        | ((with_reducible refine cells_b hk4 Z4 LTN.out ZLT ?_); (with_reducible refine Below.alloc ?_ ?_ _); rotate_left; (focus (first | omega | (simp; done) | (simp; omega))); (with_reducible refine Below.setCell ?_ ?_ _); rotate_left; (focus (first | omega | (simp; done) | (simp; omega))); (with_reducible refine Below.setCell ?_ ?_ _); rotate_left; (focus (first | omega | (simp; done) | (simp; omega))); (with_reducible refine Below.setCell ?_ ?_ _); rotate_left; (focus (first | omega | (simp; done) | (simp; omega))); (with_reducible refine Below.setCell ?_ ?_ _); rotate_left; (focus (first | omega | (simp; done) | (simp; omega))); (with_reducible exact Below.refl _ _))
        | ((with_reducible refine cells_b hk4 Z4 LTN.out ZLT ?_); (with_reducible refine Below.alloc ?_ ?_ _); rotate_left; (focus (first | omega | (simp; done) | (simp; omega))); (with_reducible refine Below.alloc ?_ ?_ _); rotate_left; (focus (first | omega | (simp; done) | (simp; omega))); (with_reducible refine Below.setCell ?_ ?_ _); rotate_left; (focus (first | omega | (simp; done) | (simp; omega))); (with_reducible refine Below.setCell ?_ ?_ _); rotate_left; (focus (first | omega | (simp; done) | (simp; omega))); (with_reducible exact Below.refl _ _))
        | ((with_reducible refine cells_b hk4 Z4 LTN.out ZLT ?_); (with_reducible refine Below.alloc ?_ ?_ _); rotate_left; (focus (first | omega | (simp; done) | (simp; omega))); (with_reducible refine Below.setCell ?_ ?_ _); rotate_left; (focus (first | omega | (simp; done) | (simp; omega))); (with_reducible refine Below.setCell ?_ ?_ _); rotate_left; (focus (first | omega | (simp; done) | (simp; omega))); (with_reducible refine Below.alloc ?_ ?_ _); rotate_left; (focus (first | omega | (simp; done) | (simp; omega))); (with_reducible exact Below.refl _ _))
        | ((with_reducible refine cells_b hk4 Z4 LTN.out ZLT ?_); (with_reducible refine Below.setCell ?_ ?_ _); rotate_left; (focus (first | omega | (simp; done) | (simp; omega))); (with_reducible refine Below.setCell ?_ ?_ _); rotate_left; (focus (first | omega | (simp; done) | (simp; omega))); (with_reducible refine Below.alloc ?_ ?_ _); rotate_left; (focus (first | omega | (simp; done) | (simp; omega))); (with_reducible exact Below.refl _ _))
        | fail)
      (first
        | (go_at_call 25; (with_reducible refine (KN0.out _).mono ?_); rintro e w1 ⟨rfl, st1⟩; have hk1 := Rk.be (Rk.be hkn (Below.dr (Below.refl _ _))) st1; have Z1 := Blk.be (Blk.be X1 (Below.dr (Below.refl _ _))) st1; have hb1 := Below.th (Below.th hBn (Below.dr (Below.refl _ _))) st1; have s1 := szD0 s0 st1; have z1 := szLD0 st1)
        | (go_at_call 25; (with_reducible refine (KN0.out _).mono ?_); rintro e w1 ⟨rfl, st1⟩; have hk1 := Rk.be (Rk.be hkn (Below.dr (Below.al (Below.refl _ _) (.cells #[.int .i64 0, .int .i64 0] 43)))) st1; have Z1 := Blk.be (Blk.be X1 (Below.dr (Below.al (Below.refl _ _) (.cells #[.int .i64 0, .int .i64 0] 43)))) st1; have hb1 := Below.th (Below.th hBn (Below.dr (Below.al (Below.refl _ _) (.cells #[.int .i64 0, .int .i64 0] 43)))) st1; have s1 := szD1 s0 st1; have P := Blk.be (Blk.dr (Blk.fresh' rfl : Blk (wn.alloc (.cells #[.int .i64 0, .int .i64 0] 43)) wn.heap.size #[.int .i64 0, .int .i64 0] 43)) st1; have z1 := szLD1 st1)
        | (go_at_call 25; (with_reducible refine (KN0.out _).mono ?_); rintro e w1 ⟨rfl, st1⟩; have hk1 := Rk.be (Rk.be hkn (Below.dr (Below.al (Below.al (Below.refl _ _) (.cells #[.int .i64 0, .int .i64 0] 43)) (.cells #[.int .i64 0, .int .i64 0] 43)))) st1; have Z1 := Blk.be (Blk.be X1 (Below.dr (Below.al (Below.al (Below.refl _ _) (.cells #[.int .i64 0, .int .i64 0] 43)) (.cells #[.int .i64 0, .int .i64 0] 43)))) st1; have hb1 := Below.th (Below.th hBn (Below.dr (Below.al (Below.al (Below.refl _ _) (.cells #[.int .i64 0, .int .i64 0] 43)) (.cells #[.int .i64 0, .int .i64 0] 43)))) st1; have s1 := szD2 s0 st1; have P := Blk.be (Blk.dr (Blk.al (Blk.fresh' rfl : Blk (wn.alloc (.cells #[.int .i64 0, .int .i64 0] 43)) wn.heap.size #[.int .i64 0, .int .i64 0] 43) (.cells #[.int .i64 0, .int .i64 0] 43))) st1; have Q := Blk.be (Blk.dr (Blk.fresh' (by simp) : Blk ((wn.alloc (.cells #[.int .i64 0, .int .i64 0] 43)).alloc (.cells #[.int .i64 0, .int .i64 0] 43)) (wn.heap.size + 1) #[.int .i64 0, .int .i64 0] 43)) st1; have z1 := szLD2 st1)
        | (go_at_call 42; (with_reducible refine (KH0.out R _ hk1).mono ?_); rintro e w2 ⟨rfl, st2, hk2⟩; have Z2 := Blk.kept Z1 st2 NE; have hb2 := hb_kept hb1 st2 hmw; have s2 := szK0 s1 st2; (try have P := Blk.kept' (Blk.be P (Below.refl _ _)) st2 hmn (by assumption)); (try have Q := Blk.kept' (Blk.be Q (Below.refl _ _)) st2 hmn (by first | assumption | exact Nat.le_succ_of_le (by assumption))); have z2 := szLK0 st2)
        | (go_at_call 42; (with_reducible refine (KH0.out R _ (Rk.be hk1 (Below.al (Below.refl _ _) (.cells #[.int .i64 0, .int .i64 0] 43)))).mono ?_); rintro e w2 ⟨rfl, st2, hk2⟩; have Z2 := Blk.kept (Blk.be Z1 (Below.al (Below.refl _ _) (.cells #[.int .i64 0, .int .i64 0] 43))) st2 NE; have hb2 := hb_kept (Below.th hb1 (Below.al (Below.refl _ _) (.cells #[.int .i64 0, .int .i64 0] 43))) st2 hmw; have s2 := szK1 s1 st2; (try have P := Blk.kept' (Blk.be P (Below.al (Below.refl _ _) (.cells #[.int .i64 0, .int .i64 0] 43))) st2 hmn (by assumption)); (try have Q := Blk.kept' (Blk.be Q (Below.al (Below.refl _ _) (.cells #[.int .i64 0, .int .i64 0] 43))) st2 hmn (by first | assumption | exact Nat.le_succ_of_le (by assumption))); (first | (have _p := P; have Q := Blk.kept' (Blk.fresh' rfl : Blk (w1.alloc (.cells #[.int .i64 0, .int .i64 0] 43)) w1.heap.size #[.int .i64 0, .int .i64 0] 43) st2 hmn s1) | have P := Blk.kept' (Blk.fresh' rfl : Blk (w1.alloc (.cells #[.int .i64 0, .int .i64 0] 43)) w1.heap.size #[.int .i64 0, .int .i64 0] 43) st2 hmn s1); have z2 := szLK1 st2)
        | (go_at_call 42; (with_reducible refine (KH0.out R _ (Rk.be hk1 (Below.al (Below.al (Below.refl _ _) (.cells #[.int .i64 0, .int .i64 0] 43)) (.cells #[.int .i64 0, .int .i64 0] 43)))).mono ?_); rintro e w2 ⟨rfl, st2, hk2⟩; have Z2 := Blk.kept (Blk.be Z1 (Below.al (Below.al (Below.refl _ _) (.cells #[.int .i64 0, .int .i64 0] 43)) (.cells #[.int .i64 0, .int .i64 0] 43))) st2 NE; have hb2 := hb_kept (Below.th hb1 (Below.al (Below.al (Below.refl _ _) (.cells #[.int .i64 0, .int .i64 0] 43)) (.cells #[.int .i64 0, .int .i64 0] 43))) st2 hmw; have s2 := szK2 s1 st2; (try have P := Blk.kept' (Blk.be P (Below.al (Below.al (Below.refl _ _) (.cells #[.int .i64 0, .int .i64 0] 43)) (.cells #[.int .i64 0, .int .i64 0] 43))) st2 hmn (by assumption)); (try have Q := Blk.kept' (Blk.be Q (Below.al (Below.al (Below.refl _ _) (.cells #[.int .i64 0, .int .i64 0] 43)) (.cells #[.int .i64 0, .int .i64 0] 43))) st2 hmn (by first | assumption | exact Nat.le_succ_of_le (by assumption))); have P := Blk.kept' (Blk.al (Blk.fresh' rfl : Blk (w1.alloc (.cells #[.int .i64 0, .int .i64 0] 43)) w1.heap.size #[.int .i64 0, .int .i64 0] 43) (.cells #[.int .i64 0, .int .i64 0] 43)) st2 hmn s1; have Q := Blk.kept' (Blk.fresh' (by simp) : Blk ((w1.alloc (.cells #[.int .i64 0, .int .i64 0] 43)).alloc (.cells #[.int .i64 0, .int .i64 0] 43)) (w1.heap.size + 1) #[.int .i64 0, .int .i64 0] 43) st2 hmn (Nat.le_succ_of_le s1); have z2 := szLK2 st2)
        | (go_at_call 25; (with_reducible refine (KN1.out _).mono ?_); rintro e w3 ⟨rfl, st3⟩; have hk3 := Rk.be hk2 st3; have Z3 := Blk.be Z2 st3; have hb3 := Below.th hb2 st3; have s3 := szB0 s2 st3; (try have P := Blk.be (Blk.be P (Below.refl _ _)) st3); (try have Q := Blk.be (Blk.be Q (Below.refl _ _)) st3); have z3 := szLB0 st3)
        | (go_at_call 25; (with_reducible refine (KN1.out _).mono ?_); rintro e w3 ⟨rfl, st3⟩; have hk3 := Rk.be (Rk.be hk2 (Below.al (Below.refl _ _) (.cells #[.int .i64 0, .int .i64 0] 43))) st3; have Z3 := Blk.be (Blk.be Z2 (Below.al (Below.refl _ _) (.cells #[.int .i64 0, .int .i64 0] 43))) st3; have hb3 := Below.th (Below.th hb2 (Below.al (Below.refl _ _) (.cells #[.int .i64 0, .int .i64 0] 43))) st3; have s3 := szB1 s2 st3; (try have P := Blk.be (Blk.be P (Below.al (Below.refl _ _) (.cells #[.int .i64 0, .int .i64 0] 43))) st3); (try have Q := Blk.be (Blk.be Q (Below.al (Below.refl _ _) (.cells #[.int .i64 0, .int .i64 0] 43))) st3); (first | (have _p := P; have Q := Blk.be (Blk.fresh' rfl : Blk (w2.alloc (.cells #[.int .i64 0, .int .i64 0] 43)) w2.heap.size #[.int .i64 0, .int .i64 0] 43) st3) | have P := Blk.be (Blk.fresh' rfl : Blk (w2.alloc (.cells #[.int .i64 0, .int .i64 0] 43)) w2.heap.size #[.int .i64 0, .int .i64 0] 43) st3); have z3 := szLB1 st3)
        | (go_at_call 25; (with_reducible refine (KN1.out _).mono ?_); rintro e w3 ⟨rfl, st3⟩; have hk3 := Rk.be (Rk.be hk2 (Below.al (Below.al (Below.refl _ _) (.cells #[.int .i64 0, .int .i64 0] 43)) (.cells #[.int .i64 0, .int .i64 0] 43))) st3; have Z3 := Blk.be (Blk.be Z2 (Below.al (Below.al (Below.refl _ _) (.cells #[.int .i64 0, .int .i64 0] 43)) (.cells #[.int .i64 0, .int .i64 0] 43))) st3; have hb3 := Below.th (Below.th hb2 (Below.al (Below.al (Below.refl _ _) (.cells #[.int .i64 0, .int .i64 0] 43)) (.cells #[.int .i64 0, .int .i64 0] 43))) st3; have s3 := szB2 s2 st3; (try have P := Blk.be (Blk.be P (Below.al (Below.al (Below.refl _ _) (.cells #[.int .i64 0, .int .i64 0] 43)) (.cells #[.int .i64 0, .int .i64 0] 43))) st3); (try have Q := Blk.be (Blk.be Q (Below.al (Below.al (Below.refl _ _) (.cells #[.int .i64 0, .int .i64 0] 43)) (.cells #[.int .i64 0, .int .i64 0] 43))) st3); have P := Blk.be (Blk.al (Blk.fresh' rfl : Blk (w2.alloc (.cells #[.int .i64 0, .int .i64 0] 43)) w2.heap.size #[.int .i64 0, .int .i64 0] 43) (.cells #[.int .i64 0, .int .i64 0] 43)) st3; have Q := Blk.be (Blk.fresh' (by simp) : Blk ((w2.alloc (.cells #[.int .i64 0, .int .i64 0] 43)).alloc (.cells #[.int .i64 0, .int .i64 0] 43)) (w2.heap.size + 1) #[.int .i64 0, .int .i64 0] 43) st3; have z3 := szLB2 st3)
        | (go_at_call 42; (with_reducible refine (KH1.out R _ hk3).mono ?_); rintro e w4 ⟨rfl, st4, hk4⟩; have Z4 := Blk.kept Z3 st4 NE; have hb4 := hb_kept hb3 st4 hmw; have s4 := szK0 s3 st4; (try have P := Blk.kept' (Blk.be P (Below.refl _ _)) st4 hmn (by assumption)); (try have Q := Blk.kept' (Blk.be Q (Below.refl _ _)) st4 hmn (by first | assumption | exact Nat.le_succ_of_le (by assumption))); have z4 := szLK0 st4; (try (have P' := P; obtain ⟨p0, p1, p2, p3, p4, p5, p6⟩ := blk_facts P')); (try (have Q' := Q; obtain ⟨q0, q1, q2, q3, q4, q5, q6⟩ := blk_facts Q')); (try (have P' := P; have Q' := Q; have d0 := blk_ne P' Q' (by first | omega | (simp; done) | (simp; omega)); obtain ⟨d1, d2⟩ := d0)))
        | (go_at_call 42; (with_reducible refine (KH1.out R _ (Rk.be hk3 (Below.al (Below.refl _ _) (.cells #[.int .i64 0, .int .i64 0] 43)))).mono ?_); rintro e w4 ⟨rfl, st4, hk4⟩; have Z4 := Blk.kept (Blk.be Z3 (Below.al (Below.refl _ _) (.cells #[.int .i64 0, .int .i64 0] 43))) st4 NE; have hb4 := hb_kept (Below.th hb3 (Below.al (Below.refl _ _) (.cells #[.int .i64 0, .int .i64 0] 43))) st4 hmw; have s4 := szK1 s3 st4; (try have P := Blk.kept' (Blk.be P (Below.al (Below.refl _ _) (.cells #[.int .i64 0, .int .i64 0] 43))) st4 hmn (by assumption)); (try have Q := Blk.kept' (Blk.be Q (Below.al (Below.refl _ _) (.cells #[.int .i64 0, .int .i64 0] 43))) st4 hmn (by first | assumption | exact Nat.le_succ_of_le (by assumption))); (first | (have _p := P; have Q := Blk.kept' (Blk.fresh' rfl : Blk (w3.alloc (.cells #[.int .i64 0, .int .i64 0] 43)) w3.heap.size #[.int .i64 0, .int .i64 0] 43) st4 hmn s3) | have P := Blk.kept' (Blk.fresh' rfl : Blk (w3.alloc (.cells #[.int .i64 0, .int .i64 0] 43)) w3.heap.size #[.int .i64 0, .int .i64 0] 43) st4 hmn s3); have z4 := szLK1 st4; (try (have P' := P; obtain ⟨p0, p1, p2, p3, p4, p5, p6⟩ := blk_facts P')); (try (have Q' := Q; obtain ⟨q0, q1, q2, q3, q4, q5, q6⟩ := blk_facts Q')); (try (have P' := P; have Q' := Q; have d0 := blk_ne P' Q' (by first | omega | (simp; done) | (simp; omega)); obtain ⟨d1, d2⟩ := d0)))
        | (go_at_call 42; (with_reducible refine (KH1.out R _ (Rk.be hk3 (Below.al (Below.al (Below.refl _ _) (.cells #[.int .i64 0, .int .i64 0] 43)) (.cells #[.int .i64 0, .int .i64 0] 43)))).mono ?_); rintro e w4 ⟨rfl, st4, hk4⟩; have Z4 := Blk.kept (Blk.be Z3 (Below.al (Below.al (Below.refl _ _) (.cells #[.int .i64 0, .int .i64 0] 43)) (.cells #[.int .i64 0, .int .i64 0] 43))) st4 NE; have hb4 := hb_kept (Below.th hb3 (Below.al (Below.al (Below.refl _ _) (.cells #[.int .i64 0, .int .i64 0] 43)) (.cells #[.int .i64 0, .int .i64 0] 43))) st4 hmw; have s4 := szK2 s3 st4; (try have P := Blk.kept' (Blk.be P (Below.al (Below.al (Below.refl _ _) (.cells #[.int .i64 0, .int .i64 0] 43)) (.cells #[.int .i64 0, .int .i64 0] 43))) st4 hmn (by assumption)); (try have Q := Blk.kept' (Blk.be Q (Below.al (Below.al (Below.refl _ _) (.cells #[.int .i64 0, .int .i64 0] 43)) (.cells #[.int .i64 0, .int .i64 0] 43))) st4 hmn (by first | assumption | exact Nat.le_succ_of_le (by assumption))); have P := Blk.kept' (Blk.al (Blk.fresh' rfl : Blk (w3.alloc (.cells #[.int .i64 0, .int .i64 0] 43)) w3.heap.size #[.int .i64 0, .int .i64 0] 43) (.cells #[.int .i64 0, .int .i64 0] 43)) st4 hmn s3; have Q := Blk.kept' (Blk.fresh' (by simp) : Blk ((w3.alloc (.cells #[.int .i64 0, .int .i64 0] 43)).alloc (.cells #[.int .i64 0, .int .i64 0] 43)) (w3.heap.size + 1) #[.int .i64 0, .int .i64 0] 43) st4 hmn (Nat.le_succ_of_le s3); have z4 := szLK2 st4; (try (have P' := P; obtain ⟨p0, p1, p2, p3, p4, p5, p6⟩ := blk_facts P')); (try (have Q' := Q; obtain ⟨q0, q1, q2, q3, q4, q5, q6⟩ := blk_facts Q')); (try (have P' := P; have Q' := Q; have d0 := blk_ne P' Q' (by first | omega | (simp; done) | (simp; omega)); obtain ⟨d1, d2⟩ := d0)))
        | fail)
    all_goals
      go_wp2_with fail
      go_meet
      refine ⟨_, _, rfl, rfl, ?_, ?_, ?_, ?_, ?_, ?_⟩
      · repeat (first | (with_reducible exact P) | (with_reducible exact Q) | (with_reducible exact Z4) | ((with_reducible refine Blk.fresh' ?_); focus (simp; done)) | ((with_reducible refine put2 (cs := #[.int .i64 0, .int .i64 0]) ?_ rfl)) | ((with_reducible refine oth2 ?_ ?_); rotate_left; (intro e; first | omega | (simp at e; omega))) | (with_reducible refine Blk.al ?_ _))
      · repeat (first | (with_reducible exact P) | (with_reducible exact Q) | (with_reducible exact Z4) | ((with_reducible refine Blk.fresh' ?_); focus (simp; done)) | ((with_reducible refine put2 (cs := #[.int .i64 0, .int .i64 0]) ?_ rfl)) | ((with_reducible refine oth2 ?_ ?_); rotate_left; (intro e; first | omega | (simp at e; omega))) | (with_reducible refine Blk.al ?_ _))
      · intro e
        first | omega | (simp at e; omega)
      · first | omega | (simp; done) | (simp; omega)
      · repeat (first | (with_reducible exact hb4) | (with_reducible refine Below.al ?_ _) | ((with_reducible refine Below.sc ?_ ?_ _); rotate_left; (focus (first | omega | (simp; done) | (simp; omega)))))
      · repeat (first | (with_reducible exact P) | (with_reducible exact Q) | (with_reducible exact Z4) | ((with_reducible refine Blk.fresh' ?_); focus (simp; done)) | ((with_reducible refine put2 (cs := #[.int .i64 0, .int .i64 0]) ?_ rfl)) | ((with_reducible refine oth2 ?_ ?_); rotate_left; (intro e; first | omega | (simp at e; omega))) | (with_reducible refine Blk.al ?_ _))
  case rest =>
    obtain ⟨ba, bb, rfl, rfl, XA, XB, hne, ⟨hba, hbb⟩, HB, XS⟩ := hcut
    have a0 := (XA.cell 0).trans (show _ = some (.int .i64 a.1) from rfl)
    have a1 := (XA.cell 1).trans (show _ = some (.int .i64 a.2) from rfl)
    have b0 := (XB.cell 0).trans (show _ = some (.int .i64 b.1) from rfl)
    have b1 := (XB.cell 1).trans (show _ = some (.int .i64 b.2) from rfl)
    have s2 := (XS.cell 2).trans (show _ = some (.int .i64 h) from rfl)
    have fa0 := XA.frozen 0
    have fa1 := XA.frozen 1
    have fb0 := XB.frozen 0
    have fb1 := XB.frozen 1
    have hne' : ¬ bb = ba := fun e => hne e.symm
    obtain ⟨⟨g1, g2, g3, g4⟩, g5, g6, g7, g8⟩ := G.out
    have HB := Aside.mk HB
    clear XA XB XS G KH0 KH1 KN0 KN1 K1 K2
    rcases HHH.out with rfl | rfl
    · by_cases q1 : 0 < a.1 - b.2
      all_goals
        by_cases q2 : a.2 - b.1 < 0
      all_goals
        have Q := Lib.hid (And.intro q1 q2)
        go_wp2_with fail
        go_quiet (fail)
        go_wp2
        refine bodyPost_ret (v := blankV m ((k : Int) + 1) l 0) ?_ rfl ⟨rfl, ?_⟩
        · rw [HE.out, if_neg (by omega), gainV]
          obtain ⟨q1, q2⟩ := Q.out
          (simp [results, Try.results23, go_sem, gainB, *]) <;> (split <;> (try split) <;> omega)
        · exact Below.drn HB.out _
    · by_cases q1 : 0 < b.1 - a.2
      all_goals
        by_cases q2 : b.2 - a.1 < 0
      all_goals
        have Q := Lib.hid (And.intro q1 q2)
        go_wp2_with fail
        go_quiet (fail)
        go_wp2
        refine bodyPost_ret (v := blankV m ((k : Int) + 1) l 1) ?_ rfl ⟨rfl, ?_⟩
        · rw [show blankV m ((k : Int) + 1) l 1 = gainV b a from HE.out.trans (if_pos (by trivial)), gainV]
          obtain ⟨q1, q2⟩ := Q.out
          (simp [results, Try.results23, go_sem, gainB, *]) <;> (split <;> (try split) <;> omega)
        · exact Below.drn (Below.sc (Below.sc (Below.sc (Below.sc HB.out hba _) hba _) hbb _) hbb _) _
theorem Blank_c (A0 A1 : Option Addr) (c0 c1 : Nat) (m : Riv) (n l h : Int) (w : World) (ha : Args w A0 A1 m) :
    Calls Try.prog 23 #[rivV m A0 A1 c0 c1, .agg #[.int .i64 n, .int .i64 l, .int .i64 h]] w fun e w' => e = .returned (blankV m n l h) ∧ Below w.heap.size w w' := by
  cases e1 : rivOk m && stOk n l h
  · exact Blank_no A0 A1 c0 c1 m n l h w ha (.inl e1)
  · by_cases hn : n = 0
    · exact Blank_no A0 A1 c0 c1 m n l h w ha (.inr ⟨e1, hn⟩)
    · rw [Bool.and_eq_true] at e1
      obtain ⟨⟨n0, n1⟩, ⟨l0, l1⟩, hh⟩ := stOk_iff e1.2
      obtain ⟨k, rfl⟩ : ∃ k : Nat, n = (k : Int) + 1 := ⟨(n - 1).toNat, by omega⟩
      exact Blank_yes A0 A1 c0 c1 m k l h w ha e1.1 (by omega) l0 l1 hh
end Go.Proofs.Ytjbgdpbeabakiaa
