/- Contracts of skill: throw, Throw. -/
import Derived.Test.YtknpkldmihhddaaR3
import Derived.Test.YtknpkldmihhddaaB4
namespace Go.Proofs.Ytknpkldmihhddaa
open Go.RowKit Go.Shelf
set_option linter.unusedVariables false
set_option linter.unusedSimpArgs false

theorem skneed_ok (e : Int) (w : World) : Calls Try.prog 52 #[.bool true, .int .i64 e] w fun x w' => x = .returned (.tuple #[]) ∧ w = w' := by
  go_enter Try.func52, Try.ntmps52
  go_wp2
  go_end0
  exact ⟨rfl, rfl⟩
theorem skneed_no (e : Int) (w : World) : Calls Try.prog 52 #[.bool false, .int .i64 e] w fun x w' => x = .panicked (misF 100 e) ∧ w = w' := by
  go_enter Try.func52, Try.ntmps52
  go_wp2
  exact ⟨rfl, rfl, rfl⟩
def missX (m p : Int) : Int := (m % 7 - 3) * p
def missY (m q : Int) : Int := (m / 7 - 3) * q
theorem step_bd {k p : Int} (h1 : -3 ≤ k) (h2 : k ≤ 3) (p0 : 0 ≤ p) (p1 : p ≤ 8192000) : -24576000 ≤ k * p ∧ k * p ≤ 24576000 := by
  have a := Int.mul_le_mul_of_nonneg_right h1 p0
  have b := Int.mul_le_mul_of_nonneg_right h2 p0
  constructor <;> omega
def throwOk (t n x y u v s p q m : Int) : Bool := sceneOk [⟨t, n, x, y, u + missX m p, v + missY m q, s, false⟩]
def ThrowPost (t n x y u v s p q m : Int) (w : World) (e : Ending) (w' : World) : Prop :=
  (e = if throwOk t n x y u v s p q m then .returned (.agg #[.int .i64 t, .int .i64 n, .int .i64 x, .int .i64 y, .int .i64 (u + missX m p), .int .i64 (v + missY m q), .int .i64 s, .bool false]) else .panicked (misF 100 4)) ∧ Below w.heap.size w w'
set_option maxHeartbeats 1000000 in
set_option maxRecDepth 100000 in
theorem throw_c (t n x y u v s : Int) (B : Option Addr) (k c : Nat) (p q m : Int) (w : World) (hm0 : 0 ≤ m) (hm : m ≤ 48) (hp0 : 0 ≤ p) (hp : p ≤ 8192000) (hq0 : 0 ≤ q) (hq : q ≤ 8192000)
    (hu0 : -65536000 ≤ u) (hu : u ≤ 65536000) (hv0 : -65536000 ≤ v) (hv : v ≤ 65536000) :
    Calls Try.prog 28 #[.agg #[.int .i64 t, .int .i64 n, .int .i64 x, .int .i64 y, .int .i64 u, .int .i64 v, .int .i64 s, .slice B k c, .int .i64 p, .int .i64 q], .int .i64 m] w (ThrowPost t n x y u v s p q m w) := by
  obtain ⟨x1, x2⟩ := step_bd (k := m % 7 - 3) (by omega) (by omega) hp0 hp
  obtain ⟨y1, y2⟩ := step_bd (k := m / 7 - 3) (by omega) (by omega) hq0 hq
  cases e1 : throwOk t n x y u v s p q m
  · have HE := Lib.hid e1
    have e2 : sceneOk [⟨t, n, x, y, u + (m % 7 - 3) * p, v + (m / 7 - 3) * q, s, false⟩] = false := e1
    clear e1
    go_enter Try.func28, Try.ntmps28
    go_wp2_with (first | (go_at_call 34; refine (shot_body_c _ _ _ _ _ _ _ _ _ _ _ _ _).mono ?_; rintro e w' ⟨rfl, zb⟩; obtain ⟨zc, zf⟩ := bcell zb; have zz := zb.size; (try simp at zz); (try have zq := fun b (h : b < w.heap.size) => (by omega : b < w'.heap.size)); (try have zq0 : w.heap.size < w'.heap.size := by omega); (try have zq1 : w.heap.size + 1 < w'.heap.size := by omega); (try have zq2 : w.heap.size + 2 < w'.heap.size := by omega); (try have zr0 : wr.heap.size < w'.heap.size := by omega); (try have zr1 : wr.heap.size + 1 < w'.heap.size := by omega)) | (go_at_call 33; refine (skill_valid_c _ _ _ _ _ _ _ _ _).mono ?_; rintro e w' ⟨rfl, zb⟩; obtain ⟨zc, zf⟩ := bcell zb; have zz := zb.size; (try simp at zz); (try have zq := fun b (h : b < w.heap.size) => (by omega : b < w'.heap.size)); (try have zq0 : w.heap.size < w'.heap.size := by omega); (try have zq1 : w.heap.size + 1 < w'.heap.size := by omega); (try have zq2 : w.heap.size + 2 < w'.heap.size := by omega); (try have zr0 : wr.heap.size < w'.heap.size := by omega); (try have zr1 : wr.heap.size + 1 < w'.heap.size := by omega)) | (go_at_call 52; refine (skneed_no _ _).mono ?_; rintro e w' ⟨rfl, rfl⟩))
    exact ⟨rfl, by rw [HE.out]; rfl, (by repeat (with_reducible first | exact Below.refl _ _ | assumption | refine Below.al ?_ _ | refine Below.dr ?_ | refine Below.drn ?_ _ | refine Below.sc ?_ (by simp <;> omega) _ | refine Below.th ?_ (by assumption)))⟩
  · have HE := Lib.hid e1
    have e2 : sceneOk [⟨t, n, x, y, u + (m % 7 - 3) * p, v + (m / 7 - 3) * q, s, false⟩] = true := e1
    clear e1
    go_enter Try.func28, Try.ntmps28
    go_wp2_with (first | (go_at_call 34; refine (shot_body_c _ _ _ _ _ _ _ _ _ _ _ _ _).mono ?_; rintro e w' ⟨rfl, zb⟩; obtain ⟨zc, zf⟩ := bcell zb; have zz := zb.size; (try simp at zz); (try have zq := fun b (h : b < w.heap.size) => (by omega : b < w'.heap.size)); (try have zq0 : w.heap.size < w'.heap.size := by omega); (try have zq1 : w.heap.size + 1 < w'.heap.size := by omega); (try have zq2 : w.heap.size + 2 < w'.heap.size := by omega); (try have zr0 : wr.heap.size < w'.heap.size := by omega); (try have zr1 : wr.heap.size + 1 < w'.heap.size := by omega)) | (go_at_call 33; refine (skill_valid_c _ _ _ _ _ _ _ _ _).mono ?_; rintro e w' ⟨rfl, zb⟩; obtain ⟨zc, zf⟩ := bcell zb; have zz := zb.size; (try simp at zz); (try have zq := fun b (h : b < w.heap.size) => (by omega : b < w'.heap.size)); (try have zq0 : w.heap.size < w'.heap.size := by omega); (try have zq1 : w.heap.size + 1 < w'.heap.size := by omega); (try have zq2 : w.heap.size + 2 < w'.heap.size := by omega); (try have zr0 : wr.heap.size < w'.heap.size := by omega); (try have zr1 : wr.heap.size + 1 < w'.heap.size := by omega)) | (go_at_call 52; refine (skneed_ok _ _).mono ?_; rintro e w' ⟨rfl, rfl⟩))
    refine bodyPost_ret (v := .agg #[.int .i64 t, .int .i64 n, .int .i64 x, .int .i64 y, .int .i64 (u + (m % 7 - 3) * p), .int .i64 (v + (m / 7 - 3) * q), .int .i64 s, .bool false]) (by simp [*, results, Try.results28, go_sem]) rfl ?_
    exact ⟨by rw [HE.out]; rfl, (by repeat (with_reducible first | exact Below.refl _ _ | assumption | refine Below.al ?_ _ | refine Below.dr ?_ | refine Below.drn ?_ _ | refine Below.sc ?_ (by simp <;> omega) _ | refine Below.th ?_ (by assumption)))⟩
def OnBody (W : World) (b : Nat) (t n x y u v s : Int) (o : Bool) : Prop :=
  (W.cell? ⟨b, 0, none⟩ = some (.int .i64 t) ∧ W.cell? ⟨b, 1, none⟩ = some (.int .i64 n) ∧ W.cell? ⟨b, 2, none⟩ = some (.int .i64 x) ∧ W.cell? ⟨b, 3, none⟩ = some (.int .i64 y) ∧ W.cell? ⟨b, 4, none⟩ = some (.int .i64 u) ∧ W.cell? ⟨b, 5, none⟩ = some (.int .i64 v) ∧ W.cell? ⟨b, 6, none⟩ = some (.int .i64 s) ∧ W.cell? ⟨b, 7, none⟩ = some (.bool o)) ∧ ∀ j, W.frozen? ⟨b, j, none⟩ = false
theorem frozen_at {w w' : World} {b : Nat} (h : w'.heap[b]? = w.heap[b]?) (o : Nat) : w'.frozen? ⟨b, o, none⟩ = w.frozen? ⟨b, o, none⟩ := by simp [World.frozen?, h]
theorem OnBody.ch {n b : Nat} {W W' : World} {t k x y u v s : Int} {o : Bool} (h : OnBody W b t k x y u v s o) (hc : Ch n W W') (hb : b < W.heap.size) (hn : b ≠ n) : OnBody W' b t k x y u v s o := by
  have e := fun o => hc.cell (o := o) hb hn
  exact ⟨by simpa only [e] using h.1, fun j => (frozen_at (hc.block b hb hn) j).trans (h.2 j)⟩
def Throw1Post (b : Nat) (t n x y u v s p q m : Int) (w : World) (e : Ending) (w' : World) : Prop :=
  (throwOk t n x y u v s p q m = true ∧ e = .returned (.tuple #[]) ∧ OnBody w' b t n x y (u + missX m p) (v + missY m q) s false ∧ Ch b w w') ∨
  (throwOk t n x y u v s p q m = false ∧ e = .panicked (misF 100 4) ∧ Below w.heap.size w w')
set_option maxHeartbeats 1000000 in
set_option maxRecDepth 100000 in
theorem Throw1_c (a b c : Nat) (t n x y u v s : Int) (B : Option Addr) (k cap : Nat) (p q m : Int) (z0 z1 z2 z3 z4 z5 z6 : Int) (z7 : Bool) (w : World) (hm0 : 0 ≤ m) (hm : m ≤ 48) (hp0 : 0 ≤ p) (hp : p ≤ 8192000) (hq0 : 0 ≤ q) (hq : q ≤ 8192000)
    (hu0 : -65536000 ≤ u) (hu : u ≤ 65536000) (hv0 : -65536000 ≤ v) (hv : v ≤ 65536000)
    (a0 : w.cell? ⟨a, 0, none⟩ = some (.int .i64 t)) (a1 : w.cell? ⟨a, 1, none⟩ = some (.int .i64 n)) (a2 : w.cell? ⟨a, 2, none⟩ = some (.int .i64 x)) (a3 : w.cell? ⟨a, 3, none⟩ = some (.int .i64 y)) (a4 : w.cell? ⟨a, 4, none⟩ = some (.int .i64 u))
    (a5 : w.cell? ⟨a, 5, none⟩ = some (.int .i64 v)) (a6 : w.cell? ⟨a, 6, none⟩ = some (.int .i64 s)) (a7 : w.cell? ⟨a, 7, none⟩ = some (.slice B k cap)) (a8 : w.cell? ⟨a, 8, none⟩ = some (.int .i64 p)) (a9 : w.cell? ⟨a, 9, none⟩ = some (.int .i64 q))
    (b0 : w.cell? ⟨b, 0, none⟩ = some (.int .i64 m)) (hc : OnBody w c z0 z1 z2 z3 z4 z5 z6 z7) (hclt : c < w.heap.size) :
    Calls Try.prog 27 #[.pointer (some ⟨a, 0, none⟩), .pointer (some ⟨b, 0, none⟩), .pointer (some ⟨c, 0, none⟩)] w (Throw1Post c t n x y u v s p q m w) := by
  obtain ⟨⟨c0, c1, c2, c3, c4, c5, c6, c7⟩, cf⟩ := hc
  cases e1 : throwOk t n x y u v s p q m
  · have HE := Lib.hid e1
    have K := Aside.mk (fun w => throw_c t n x y u v s B k cap p q m w hm0 hm hp0 hp hq0 hq hu0 hu hv0 hv)
    have key := Aside.mk (fun w => (K.out w).mono (R' := fun e w' => e = .panicked (misF 100 4) ∧ Below w.heap.size w w') fun e w' h => ⟨by have := h.1; rw [HE.out] at this; exact this, h.2⟩)
    clear e1 hm0 hm hp0 hp hq0 hq hu0 hu hv0 hv
    go_enter Try.func27, Try.ntmps27
    go_wp2_with (go_at_call 28; refine (key.out _).mono ?_; rintro e w' ⟨rfl, zb⟩; obtain ⟨zc, zf⟩ := bcell zb; have zz := zb.size; (try simp at zz); (try have zq := fun b (h : b < w.heap.size) => (by omega : b < w'.heap.size)); (try have zq0 : w.heap.size < w'.heap.size := by omega); (try have zq1 : w.heap.size + 1 < w'.heap.size := by omega); (try have zq2 : w.heap.size + 2 < w'.heap.size := by omega); (try have zr0 : wr.heap.size < w'.heap.size := by omega); (try have zr1 : wr.heap.size + 1 < w'.heap.size := by omega))
    exact ⟨rfl, .inr ⟨HE.out, rfl, (by repeat (with_reducible first | exact Below.refl _ _ | assumption | refine Below.al ?_ _ | refine Below.dr ?_ | refine Below.drn ?_ _ | refine Below.sc ?_ (by simp <;> omega) _ | refine Below.th ?_ (by assumption)))⟩⟩
  · have HE := Lib.hid e1
    have K := Aside.mk (fun w => throw_c t n x y u v s B k cap p q m w hm0 hm hp0 hp hq0 hq hu0 hu hv0 hv)
    have key := Aside.mk (fun w => (K.out w).mono (R' := fun e w' => e = .returned (.agg #[.int .i64 t, .int .i64 n, .int .i64 x, .int .i64 y, .int .i64 (u + missX m p), .int .i64 (v + missY m q), .int .i64 s, .bool false]) ∧ Below w.heap.size w w') fun e w' h => ⟨by have := h.1; rw [HE.out] at this; exact this, h.2⟩)
    clear e1 hm0 hm hp0 hp hq0 hq hu0 hu hv0 hv
    go_enter Try.func27, Try.ntmps27
    go_wp2_with (go_at_call 28; refine (key.out _).mono ?_; rintro e w' ⟨rfl, zb⟩; obtain ⟨zc, zf⟩ := bcell zb; have zz := zb.size; (try simp at zz); (try have zq := fun b (h : b < w.heap.size) => (by omega : b < w'.heap.size)); (try have zq0 : w.heap.size < w'.heap.size := by omega); (try have zq1 : w.heap.size + 1 < w'.heap.size := by omega); (try have zq2 : w.heap.size + 2 < w'.heap.size := by omega); (try have zr0 : wr.heap.size < w'.heap.size := by omega); (try have zr1 : wr.heap.size + 1 < w'.heap.size := by omega))
    go_end0
    have cf' : ∀ j, w'.frozen? ⟨c, j, none⟩ = false := fun j => (zf _ _ hclt).trans (cf j)
    refine .inl ⟨HE.out, rfl, ⟨⟨?_, ?_, ?_, ?_, ?_, ?_, ?_, ?_⟩, ?_⟩, ?_⟩
    iterate 8 (· simp [go_sem, *])
    · intro j; simp [go_sem, cf']
    · exact (((((((((Ch.of_below zb).trans (Ch.set _ _ _)).trans (Ch.set _ _ _)).trans (Ch.set _ _ _)).trans (Ch.set _ _ _)).trans (Ch.set _ _ _)).trans (Ch.set _ _ _)).trans (Ch.set _ _ _)).trans (Ch.set _ _ _))
theorem Below.ch {n k : Nat} {a b c : World} (h : Below n a b) (g : Ch k b c) (hn : n ≤ k) (ha : n ≤ b.heap.size) : Below n a c :=
  ⟨g.os.trans h.os, g.tape.trans h.tape, g.output.trans h.output, Nat.le_trans h.size g.size, fun i hi => (g.block i (by omega) (by omega)).trans (h.block i hi)⟩
theorem scene_uv {t n x y u v s : Int} {o : Bool} (h : sceneOk [⟨t, n, x, y, u, v, s, o⟩] = true) : -65536000 ≤ u ∧ u ≤ 65536000 ∧ -65536000 ≤ v ∧ v ≤ 65536000 := by
  simp [sceneOk, sceneGo, Bod.ok, bodyOk, mvOk, sqB, inR] at h
  omega
def thrOk (t n x y u v s : Int) (l : List Brm) (p q m : Int) : Bool := callOk t n x y u v s l p q && inR m 0 48
def thrV (t n x y u v s : Int) (l : List Brm) (p q m : Int) : Value :=
  if thrOk t n x y u v s l p q m && throwOk t n x y u v s p q m then .tuple #[.agg #[.int .i64 t, .int .i64 n, .int .i64 x, .int .i64 y, .int .i64 (u + missX m p), .int .i64 (v + missY m q), .int .i64 s, .bool false], .int .i64 0]
  else .tuple #[.agg #[.int .i64 0, .int .i64 0, .int .i64 0, .int .i64 0, .int .i64 0, .int .i64 0, .int .i64 0, .bool false], .int .i64 (if thrOk t n x y u v s l p q m then 4 else 2)]
set_option maxHeartbeats 1000000 in
set_option maxRecDepth 100000 in
theorem Throw_c (t n x y u v s : Int) (B : Option Addr) (c : Nat) (l : List Brm) (p q m : Int) (w : World) (hr : Arr w B (brooms l)) (hl : l.length < 4294967296) :
    Calls Try.prog 8 #[.agg #[.int .i64 t, .int .i64 n, .int .i64 x, .int .i64 y, .int .i64 u, .int .i64 v, .int .i64 s, .slice B l.length c, .int .i64 p, .int .i64 q], .int .i64 m] w fun e w' => e = .returned (thrV t n x y u v s l p q m) ∧ Below w.heap.size w w' := by
  cases e1 : callOk t n x y u v s l p q
  · have HE := Lib.hid e1
    have K := Aside.mk (fun w hr => CheckCall_c t n x y u v s B c l p q w hr hl)
    rw [e1] at K
    clear e1
    go_enter Try.func8, Try.ntmps8
    go_wp2_with (first | (go_at_call 10; refine (K.out _ (by repeat (first | exact hr | refine Arr.below ?_ (by assumption) | refine Arr.al ?_ _))).mono ?_; rintro e w' ⟨rfl, zb⟩; obtain ⟨zc, zf⟩ := bcell zb; have zz := zb.size; (try simp at zz); (try have zq := fun b (h : b < w.heap.size) => (by omega : b < w'.heap.size)); (try have zq0 : w.heap.size < w'.heap.size := by omega); (try have zq1 : w.heap.size + 1 < w'.heap.size := by omega); (try have zq2 : w.heap.size + 2 < w'.heap.size := by omega); (try have zr0 : wr.heap.size < w'.heap.size := by omega); (try have zr1 : wr.heap.size + 1 < w'.heap.size := by omega)) | (go_at_call 25; refine (skill_within_c _ _ _ _).mono ?_; rintro e w' ⟨rfl, rfl⟩))
    refine bodyPost_ret (v := .tuple #[.agg #[.int .i64 0, .int .i64 0, .int .i64 0, .int .i64 0, .int .i64 0, .int .i64 0, .int .i64 0, .bool false], .int .i64 2]) (by simp [*, results, Try.results8, go_sem]) rfl ?_
    exact ⟨by simp [thrV, thrOk, HE.out], (by repeat (with_reducible first | exact Below.refl _ _ | assumption | refine Below.al ?_ _ | refine Below.dr ?_ | refine Below.drn ?_ _ | refine Below.sc ?_ (by simp <;> omega) _ | refine Below.th ?_ (by assumption)))⟩
  · cases e2 : inR m 0 48
    · have HE := Lib.hid e1
      have HF := Lib.hid e2
      have K := Aside.mk (fun w hr => CheckCall_c t n x y u v s B c l p q w hr hl)
      rw [e1] at K
      have K2 := Aside.mk (fun w => skill_within_c m 0 48 w)
      rw [e2] at K2
      clear e1 e2
      go_enter Try.func8, Try.ntmps8
      go_wp2_with (first | (go_at_call 10; refine (K.out _ (by repeat (first | exact hr | refine Arr.below ?_ (by assumption) | refine Arr.al ?_ _))).mono ?_; rintro e w' ⟨rfl, zb⟩; obtain ⟨zc, zf⟩ := bcell zb; have zz := zb.size; (try simp at zz); (try have zq := fun b (h : b < w.heap.size) => (by omega : b < w'.heap.size)); (try have zq0 : w.heap.size < w'.heap.size := by omega); (try have zq1 : w.heap.size + 1 < w'.heap.size := by omega); (try have zq2 : w.heap.size + 2 < w'.heap.size := by omega); (try have zr0 : wr.heap.size < w'.heap.size := by omega); (try have zr1 : wr.heap.size + 1 < w'.heap.size := by omega)) | (go_at_call 25; refine (K2.out _).mono ?_; rintro e w' ⟨rfl, rfl⟩))
      refine bodyPost_ret (v := .tuple #[.agg #[.int .i64 0, .int .i64 0, .int .i64 0, .int .i64 0, .int .i64 0, .int .i64 0, .int .i64 0, .bool false], .int .i64 2]) (by simp [*, results, Try.results8, go_sem]) rfl ?_
      exact ⟨by simp [thrV, thrOk, HE.out, HF.out], (by repeat (with_reducible first | exact Below.refl _ _ | assumption | refine Below.al ?_ _ | refine Below.dr ?_ | refine Below.drn ?_ _ | refine Below.sc ?_ (by simp <;> omega) _ | refine Below.th ?_ (by assumption)))⟩
    · have HE := Lib.hid e1
      have HF := Lib.hid e2
      have K := Aside.mk (fun w hr => CheckCall_c t n x y u v s B c l p q w hr hl)
      rw [e1] at K
      have K2 := Aside.mk (fun w => skill_within_c m 0 48 w)
      rw [e2] at K2
      have hb : sceneOk [⟨t, n, x, y, u, v, s, false⟩] = true ∧ inR p 0 8192000 = true ∧ inR q 0 8192000 = true := by simp [callOk] at e1; simp [e1]
      obtain ⟨u0, u1, v0, v1⟩ := scene_uv hb.1
      obtain ⟨p0, p1⟩ := inR_iff.1 hb.2.1
      obtain ⟨q0, q1⟩ := inR_iff.1 hb.2.2
      obtain ⟨m0, m1⟩ := inR_iff.1 e2
      have K3 := Aside.mk (fun a b k z0 z1 z2 z3 z4 z5 z6 z7 w => Throw1_c a b k t n x y u v s B l.length c p q m z0 z1 z2 z3 z4 z5 z6 z7 w m0 m1 p0 p1 q0 q1 u0 u1 v0 v1)
      clear e1 e2 hb u0 u1 v0 v1 p0 p1 q0 q1 m0 m1
      have hmf : ∀ (fn : Fn) (first cap : Array Value) (w : World), (Instr.makeFunc fn first cap).run Try.prog w = .ok (.func fn first cap) w := fun _ _ _ _ => rfl
      go_enter Try.func8, Try.ntmps8
      go_wp2_with (first | (go_at_call 10; refine (K.out _ (by repeat (first | exact hr | refine Arr.below ?_ (by assumption) | refine Arr.al ?_ _))).mono ?_; rintro e w' ⟨rfl, zb⟩; obtain ⟨zc, zf⟩ := bcell zb; have zz := zb.size; (try simp at zz); (try have zq := fun b (h : b < w.heap.size) => (by omega : b < w'.heap.size)); (try have zq0 : w.heap.size < w'.heap.size := by omega); (try have zq1 : w.heap.size + 1 < w'.heap.size := by omega); (try have zq2 : w.heap.size + 2 < w'.heap.size := by omega); (try have zr0 : wr.heap.size < w'.heap.size := by omega); (try have zr1 : wr.heap.size + 1 < w'.heap.size := by omega)) | (go_at_call 25; refine (K2.out _).mono ?_; rintro e w' ⟨rfl, rfl⟩))
      have hob0 : OnBody w' (w.heap.size + 1 + 1) 0 0 0 0 0 0 0 false := by
        refine ⟨⟨?_, ?_, ?_, ?_, ?_, ?_, ?_, ?_⟩, ?_⟩
        iterate 8 (· simp [go_sem, *])
        · intro j; rw [zf _ _ (by simp)]; simp [go_sem]
      have hB0 : Below w.heap.size w w' := (by repeat (with_reducible first | exact Below.refl _ _ | assumption | refine Below.al ?_ _ | refine Below.dr ?_ | refine Below.drn ?_ _ | refine Below.sc ?_ (by simp <;> omega) _ | refine Below.th ?_ (by assumption)))
      have hS0 : w.heap.size + 1 + 1 < w'.heap.size := by omega
      have hf : ∀ (o : Obj), (w'.alloc o).heap[w'.heap.size]? = some o := fun o => by show (w'.heap.push _)[w'.heap.size]? = _; simp
      have hin := Aside.mk (K3.out w.heap.size (w.heap.size + 1) (w.heap.size + 1 + 1) 0 0 0 0 0 0 0 false (w'.alloc (.cells #[.int .i64 0] 33))
        (by simp [go_sem, *]) (by simp [go_sem, *]) (by simp [go_sem, *]) (by simp [go_sem, *]) (by simp [go_sem, *]) (by simp [go_sem, *]) (by simp [go_sem, *]) (by simp [go_sem, *]) (by simp [go_sem, *]) (by simp [go_sem, *]) (by simp [go_sem, *])
        (hob0.ch (Ch.of_below (n := w.heap.size + 1 + 1 + 1) (Below.al (Below.refl _ _) _)) hS0 (by omega)) (by simp; omega))
      refine Calls.mono (R := fun e W => (throwOk t n x y u v s p q m = true ∧ e = .returned (.int .i64 0) ∧ OnBody W (w.heap.size + 1 + 1) t n x y (u + missX m p) (v + missY m q) s false ∧ Below w.heap.size w W) ∨ (throwOk t n x y u v s p q m = false ∧ e = .returned (.int .i64 4) ∧ OnBody W (w.heap.size + 1 + 1) 0 0 0 0 0 0 0 false ∧ Below w.heap.size w W)) ?_ ?_
      · refine skill_tried_c 27 _ _ (enters_of Try.func27 (by kernel_rfl) rfl) _ ?_
        refine hin.out.mono ?_
        rintro e W (⟨ht, rfl, hob, hch⟩ | ⟨ht, rfl, hbe⟩)
        · have hS : (w'.alloc (.cells #[.int .i64 0] 33)).heap.size ≤ W.heap.size := hch.size
          simp at hS
          refine ⟨(hch.block _ (by simp) (by omega)).trans (hf _), .inl ⟨rfl, fun W' hW => .inl ⟨ht, rfl, hob.ch hW (by omega) (by omega), ?_⟩⟩⟩
          exact Below.ch (Below.ch (Below.al hB0 _) hch (by omega) (by simp; omega)) hW (by omega) (by omega)
        · have hS : (w'.alloc (.cells #[.int .i64 0] 33)).heap.size ≤ W.heap.size := hbe.size
          simp at hS
          refine ⟨(hbe.block _ (by simp)).trans (hf _), .inr ⟨4, rfl, fun W' hW => .inr ⟨ht, rfl, ?_, ?_⟩⟩⟩
          · refine ((hob0.ch (Ch.of_below (n := w.heap.size + 1 + 1 + 1) (Below.al (Below.refl _ _) _)) hS0 (by omega)).ch (Ch.of_below (n := w.heap.size + 1 + 1 + 1) hbe) (by simp; omega) (by omega)).ch hW (by omega) (by omega)
          · exact Below.ch (Below.th (Below.al hB0 _) hbe) hW (by omega) (by omega)
      · clear hin hob0 K3
        rintro e W (⟨ht, rfl, ⟨⟨d0, d1, d2, d3, d4, d5, d6, d7⟩, df⟩, hB⟩ | ⟨ht, rfl, ⟨⟨d0, d1, d2, d3, d4, d5, d6, d7⟩, df⟩, hB⟩)
        · have HT := Lib.hid ht
          clear ht
          go_wp2
          refine bodyPost_ret (v := .tuple #[.agg #[.int .i64 t, .int .i64 n, .int .i64 x, .int .i64 y, .int .i64 (u + missX m p), .int .i64 (v + missY m q), .int .i64 s, .bool false], .int .i64 0]) (by simp [*, results, Try.results8, go_sem]) rfl ?_
          exact ⟨by simp [thrV, thrOk, HE.out, HF.out, HT.out], (by repeat (with_reducible first | exact Below.refl _ _ | assumption | refine Below.al ?_ _ | refine Below.dr ?_ | refine Below.drn ?_ _ | refine Below.sc ?_ (by simp <;> omega) _ | refine Below.th ?_ (by assumption)))⟩
        · have HT := Lib.hid ht
          clear ht
          go_wp2
          refine bodyPost_ret (v := .tuple #[.agg #[.int .i64 0, .int .i64 0, .int .i64 0, .int .i64 0, .int .i64 0, .int .i64 0, .int .i64 0, .bool false], .int .i64 4]) (by simp [*, results, Try.results8, go_sem]) rfl ?_
          exact ⟨by simp [thrV, thrOk, HE.out, HF.out, HT.out], (by repeat (with_reducible first | exact Below.refl _ _ | assumption | refine Below.al ?_ _ | refine Below.dr ?_ | refine Below.drn ?_ _ | refine Below.sc ?_ (by simp <;> omega) _ | refine Below.th ?_ (by assumption)))⟩
end Go.Proofs.Ytknpkldmihhddaa
