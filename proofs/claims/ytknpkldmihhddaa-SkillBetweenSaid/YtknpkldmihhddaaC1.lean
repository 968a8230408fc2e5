/- Contract of contact.Check: whether a scene is valid. -/
import Derived.Test.YtknpkldmihhddaaB1
import Derived.Test.YtknpkldmihhddaaM
namespace Go.Proofs.Ytknpkldmihhddaa
open Go.RowKit
set_option linter.unusedVariables false
set_option linter.unusedSimpArgs false

structure Bod where
  t : Int
  n : Int
  x : Int
  y : Int
  u : Int
  v : Int
  s : Int
  o : Bool
deriving DecidableEq
def Bod.cs (b : Bod) : List Value := [.int .i64 b.t, .int .i64 b.n, .int .i64 b.x, .int .i64 b.y, .int .i64 b.u, .int .i64 b.v, .int .i64 b.s, .bool b.o]
theorem Bod.cs_len (b : Bod) : b.cs.length = 8 := rfl
def bodies (l : List Bod) : List Value := cells Bod.cs l
def Bod.ok (b : Bod) : Bool := bodyOk b.t b.n b.x b.y b.u b.v b.s
def restB (u v : Int) : Bool := decide (u = 0) && decide (v = 0)
def Bod.rests (b : Bod) : Bool := restB b.u b.v
def Bod.fine (b : Bod) : Bool := !b.o || (b.rests && !(b.s != 0))
def sceneGo (seen : List (Int × Int)) : List Bod → Bool
  | [] => true
  | b :: l => b.ok && !seen.contains (b.t, b.n) && b.fine && sceneGo (seen ++ [(b.t, b.n)]) l
def sceneOk (l : List Bod) : Bool := decide (l.length ≤ 16) && sceneGo [] l
def names (l : List Bod) : List (Int × Int) := l.map fun b => (b.t, b.n)
def kv (l : List (Int × Int)) : List ((Int × Int) × Value) := l.map fun p => (p, .bool true)
theorem kv_lookup (l : List (Int × Int)) (p : Int × Int) : ((kv l).lookup p).getD (.bool false) = .bool (l.contains p) := by
  induction l with
  | nil => simp [kv]
  | cons q l ih =>
    simp only [kv, List.map_cons, List.lookup] at *
    by_cases h : p = q
    · simp [h]
    · simp [h, beq_eq_false_iff_ne.2 h, ih]
theorem kv_none {l : List (Int × Int)} {p : Int × Int} (h : l.contains p = false) : (kv l).lookup p = none := by
  induction l with
  | nil => simp [kv]
  | cons q l ih =>
    simp only [kv, List.map_cons, List.lookup] at *
    simp at h
    simp [beq_eq_false_iff_ne.2 h.1]
    simpa [kv] using ih (by simpa using h.2)

theorem kv_snoc (l : List (Int × Int)) (p : Int × Int) : kv (l ++ [p]) = kv l ++ [(p, .bool true)] := by simp [kv]
theorem rests_c (t n x y u v s : Int) (o : Bool) (w : World) :
    Calls Try.prog 70 #[.agg #[.int .i64 t, .int .i64 n, .int .i64 x, .int .i64 y, .int .i64 u, .int .i64 v, .int .i64 s, .bool o]] w fun e w' => e = .returned (.bool (restB u v)) ∧ Below w.heap.size w w' := by
  go_enter Try.func70, Try.ntmps70
  go_wp2
  all_goals
    go_ret
    exact ⟨ret_bool (by simp [restB, *]), (by repeat (with_reducible first | exact Below.refl _ _ | assumption | refine Below.al ?_ _ | refine Below.dr ?_ | refine Below.drn ?_ _ | refine Below.sc ?_ (by simp <;> omega) _ | refine Below.th ?_ (by assumption)))⟩

theorem names_snoc (l : List Bod) (k : Nat) (hk : k < l.length) : names (l.take (k + 1)) = names (l.take k) ++ [(l[k].t, l[k].n)] := by
  unfold names; rw [List.take_succ_eq_append_getElem hk, List.map_append]; rfl
theorem scene_step (l : List Bod) (k : Nat) (hk : k < l.length) : sceneGo (names (l.take k)) (l.drop k) = (l[k].ok && !(names (l.take k)).contains (l[k].t, l[k].n) && l[k].fine && sceneGo (names (l.take (k + 1))) (l.drop (k + 1))) := by
  rw [names_snoc l k hk, List.drop_eq_getElem_cons hk]; rfl
theorem Arr.bod {w : World} {A : Option Addr} {l : List Bod} (h : Arr w A (bodies l)) {i : Nat} (hi : i < l.length) :
    ∃ b o, A = some ⟨b, o, none⟩ ∧ b < w.heap.size ∧ w.cell? ⟨b, o + i * 8, none⟩ = some (.int .i64 (l[i].t)) ∧ w.cell? ⟨b, o + i * 8 + 1, none⟩ = some (.int .i64 (l[i].n)) ∧ w.cell? ⟨b, o + i * 8 + 2, none⟩ = some (.int .i64 (l[i].x)) ∧ w.cell? ⟨b, o + i * 8 + 3, none⟩ = some (.int .i64 (l[i].y)) ∧
      w.cell? ⟨b, o + i * 8 + 4, none⟩ = some (.int .i64 (l[i].u)) ∧ w.cell? ⟨b, o + i * 8 + 5, none⟩ = some (.int .i64 (l[i].v)) ∧ w.cell? ⟨b, o + i * 8 + 6, none⟩ = some (.int .i64 (l[i].s)) ∧ w.cell? ⟨b, o + i * 8 + 7, none⟩ = some (.bool (l[i].o)) := by
  obtain ⟨b, o, hA, hb, hc⟩ := h.at Bod.cs_len (by omega) hi
  exact ⟨b, o, hA, hb, hc 0 (by omega), hc 1 (by omega), hc 2 (by omega), hc 3 (by omega), hc 4 (by omega), hc 5 (by omega), hc 6 (by omega), hc 7 (by omega)⟩

set_option maxHeartbeats 1000000 in
set_option maxRecDepth 100000 in
theorem Check_c (A : Option Addr) (c : Nat) (l : List Bod) (w : World) (hr : Arr w A (bodies l)) (hl : l.length < 4294967296) :
    Calls Try.prog 58 #[.slice A l.length c] w fun e w' => e = .returned (.int .i64 (eArg (sceneOk l))) ∧ Below w.heap.size w w' := by
  by_cases h16 : l.length ≤ 16
  · have hmm := @run_makeMap Try.prog
    go_enter Try.func58, Try.ntmps58
    go_wp2
    go_loopw [13] (fun i wr => ∃ k : Nat, k ≤ l.length ∧ i = .int .i64 k ∧ Below w.heap.size w wr ∧ MapOf (fun p : Int × Int => Value.agg #[.int .i64 p.1, .int .i64 p.2]) wr w.heap.size (kv (names (l.take k))) ∧ Hid (sceneGo (names (l.take k)) (l.drop k) = sceneGo [] l)) (fun i _ => l.length - (intOf i).toNat)
    case atStart => exact ⟨0, by omega, rfl, (by repeat (with_reducible first | exact Below.refl _ _ | assumption | refine Below.al ?_ _ | refine Below.dr ?_ | refine Below.drn ?_ _ | refine Below.sc ?_ (by simp <;> omega) _ | refine Below.th ?_ (by assumption))), MapOf.new _ _, rfl⟩
    case round =>
      obtain ⟨k, hk, rfl, hB, hM, HS⟩ := hrel
      by_cases hlt : k < l.length
      · obtain ⟨b, o, rfl, hb, c0, c1, c2, c3, c4, c5, c6, c7⟩ := (hr.below hB).bod hlt
        have hstep := Lib.hid (scene_step l k hlt)
        have hlt' := hM.lt
        have hlk : ∀ {w1 : World}, w1.heap[w.heap.size]? = wr.heap[w.heap.size]? → (Instr.lookup 118 (.map (some w.heap.size)) (Value.agg #[.int .i64 (l[k].t), .int .i64 (l[k].n)]) false).run Try.prog w1 = .ok (.bool ((names (l.take k)).contains (l[k].t, l[k].n))) w1 := fun h => by
          rw [← kv_lookup]; exact (hM.at h).lookup pairs Try.underlying118 (z := .bool false) (fun w => by kernel_rfl) (l[k].t, l[k].n)
        have HLK := Aside.mk @hlk
        clear hlk
        cases e1 : bodyOk l[k].t l[k].n l[k].x l[k].y l[k].u l[k].v l[k].s
        · go_wp2_with (go_at_call 69; refine (valid_c _ _ _ _ _ _ _ _ _).mono ?_; rintro e w' ⟨rfl, zb⟩; obtain ⟨zc, zf⟩ := bcell zb; have zz := zb.size; (try simp at zz); (try have zq := fun b (h : b < w.heap.size) => (by omega : b < w'.heap.size)); (try have zq0 : w.heap.size < w'.heap.size := by omega); (try have zq1 : w.heap.size + 1 < w'.heap.size := by omega); (try have zq2 : w.heap.size + 2 < w'.heap.size := by omega); (try have zr0 : wr.heap.size < w'.heap.size := by omega); (try have zr1 : wr.heap.size + 1 < w'.heap.size := by omega))
          go_ret
          refine ⟨ret_int ?_, (by repeat (with_reducible first | exact Below.refl _ _ | assumption | refine Below.al ?_ _ | refine Below.dr ?_ | refine Below.drn ?_ _ | refine Below.sc ?_ (by simp <;> omega) _ | refine Below.th ?_ (by assumption)))⟩
          rw [show sceneOk l = false from by rw [sceneOk, ← HS.out, hstep.out]; simp [Bod.ok, e1]]; rfl
        · cases e2 : (names (l.take k)).contains (l[k].t, l[k].n)
          · cases e3 : l[k].o
            · go_wp2_with (go_at_call 69; refine (valid_c _ _ _ _ _ _ _ _ _).mono ?_; rintro e w1 ⟨rfl, hb⟩; obtain ⟨hc, hf⟩ := bcell hb; have hsz1 := hb.size; simp at hsz1; have hl : wr.heap.size + 1 < w1.heap.size := (by omega); have hM1 := Aside.mk (hM.at (heap_be hb (by simp; omega) (heap_al (by simp; omega) (heap_al hlt' rfl)))); have hlk := HLK.out (w1 := w1) (heap_be hb (by simp; omega) (heap_al (by simp; omega) (heap_al hlt' rfl))); rw [e2] at hlk; obtain ⟨w2, hst, hM2, hsz, hoth, ho1, ho2, ho3⟩ := hM1.out.store pairs Try.underlying118 (l[k].t, l[k].n) (.bool true) (kv_none e2); have HB2 := Aside.mk (Below.mk (B := w.heap.size) ho1 ho2 ho3 (by omega) (fun i hi => hoth i (by omega))); clear hoth ho1 ho2 ho3 hsz)
              go_roundw
              case rel => exact ⟨k + 1, by omega, by go_num, ((by repeat (with_reducible first | exact Below.refl _ _ | assumption | refine Below.al ?_ _ | refine Below.dr ?_ | refine Below.drn ?_ _ | refine Below.sc ?_ (by simp <;> omega) _ | refine Below.th ?_ (by assumption))) : Below w.heap.size w w1).trans HB2.out, by rw [names_snoc l k hlt, kv_snoc]; exact hM2, by show _ = _; rw [← HS.out, hstep.out, e2]; simp [Bod.ok, Bod.fine, Bod.rests, e1, e3]⟩
              case measure => simp [intOf]; omega
            · cases e4 : restB l[k].u l[k].v
              · go_wp2_with (first | (go_at_call 69; refine (valid_c _ _ _ _ _ _ _ _ _).mono ?_; rintro e w1 ⟨rfl, hb⟩; obtain ⟨hc, hf⟩ := bcell hb; have hsz1 := hb.size; simp at hsz1; have hl : wr.heap.size + 1 < w1.heap.size := (by omega); have hM1 := Aside.mk (hM.at (heap_be hb (by simp; omega) (heap_al (by simp; omega) (heap_al hlt' rfl)))); have hlk := HLK.out (w1 := w1) (heap_be hb (by simp; omega) (heap_al (by simp; omega) (heap_al hlt' rfl))); rw [e2] at hlk) | (go_at_call 70; refine (rests_c _ _ _ _ _ _ _ _ _).mono ?_; rintro e w1r ⟨rfl, hbr⟩; obtain ⟨hcr, hfr⟩ := bcell hbr; have hM1r := Aside.mk (hM1.out.at (heap_be hbr hM1.out.lt rfl))))
                go_ret
                refine ⟨ret_int ?_, (by repeat (with_reducible first | exact Below.refl _ _ | assumption | refine Below.al ?_ _ | refine Below.dr ?_ | refine Below.drn ?_ _ | refine Below.sc ?_ (by simp <;> omega) _ | refine Below.th ?_ (by assumption)))⟩
                rw [show sceneOk l = false from by rw [sceneOk, ← HS.out, hstep.out, e2]; simp [Bod.ok, Bod.fine, Bod.rests, e1, e3, e4]]; rfl
              · cases e5 : (l[k].s != 0)
                · go_wp2_with (first | (go_at_call 69; refine (valid_c _ _ _ _ _ _ _ _ _).mono ?_; rintro e w1 ⟨rfl, hb⟩; obtain ⟨hc, hf⟩ := bcell hb; have hsz1 := hb.size; simp at hsz1; have hl : wr.heap.size + 1 < w1.heap.size := (by omega); have hM1 := Aside.mk (hM.at (heap_be hb (by simp; omega) (heap_al (by simp; omega) (heap_al hlt' rfl)))); have hlk := HLK.out (w1 := w1) (heap_be hb (by simp; omega) (heap_al (by simp; omega) (heap_al hlt' rfl))); rw [e2] at hlk) | (go_at_call 70; refine (rests_c _ _ _ _ _ _ _ _ _).mono ?_; rintro e w1r ⟨rfl, hbr⟩; obtain ⟨hcr, hfr⟩ := bcell hbr; have hM1r := Aside.mk (hM1.out.at (heap_be hbr hM1.out.lt rfl)); obtain ⟨w2, hst, hM2, hsz, hoth, ho1, ho2, ho3⟩ := hM1r.out.store pairs Try.underlying118 (l[k].t, l[k].n) (.bool true) (kv_none e2); have HB2 := Aside.mk (Below.mk (B := w.heap.size) ho1 ho2 ho3 (by omega) (fun i hi => hoth i (by omega))); clear hoth ho1 ho2 ho3 hsz))
                  go_roundw
                  case rel => exact ⟨k + 1, by omega, by go_num, ((by repeat (with_reducible first | exact Below.refl _ _ | assumption | refine Below.al ?_ _ | refine Below.dr ?_ | refine Below.drn ?_ _ | refine Below.sc ?_ (by simp <;> omega) _ | refine Below.th ?_ (by assumption))) : Below w.heap.size w w1r).trans HB2.out, by rw [names_snoc l k hlt, kv_snoc]; exact hM2, by show _ = _; rw [← HS.out, hstep.out, e2]; simp [Bod.ok, Bod.fine, Bod.rests, e1, e3, e4, e5]⟩
                  case measure => simp [intOf]; omega
                · go_wp2_with (first | (go_at_call 69; refine (valid_c _ _ _ _ _ _ _ _ _).mono ?_; rintro e w1 ⟨rfl, hb⟩; obtain ⟨hc, hf⟩ := bcell hb; have hsz1 := hb.size; simp at hsz1; have hl : wr.heap.size + 1 < w1.heap.size := (by omega); have hM1 := Aside.mk (hM.at (heap_be hb (by simp; omega) (heap_al (by simp; omega) (heap_al hlt' rfl)))); have hlk := HLK.out (w1 := w1) (heap_be hb (by simp; omega) (heap_al (by simp; omega) (heap_al hlt' rfl))); rw [e2] at hlk) | (go_at_call 70; refine (rests_c _ _ _ _ _ _ _ _ _).mono ?_; rintro e w1r ⟨rfl, hbr⟩; obtain ⟨hcr, hfr⟩ := bcell hbr; have hM1r := Aside.mk (hM1.out.at (heap_be hbr hM1.out.lt rfl))))
                  go_ret
                  refine ⟨ret_int ?_, (by repeat (with_reducible first | exact Below.refl _ _ | assumption | refine Below.al ?_ _ | refine Below.dr ?_ | refine Below.drn ?_ _ | refine Below.sc ?_ (by simp <;> omega) _ | refine Below.th ?_ (by assumption)))⟩
                  rw [show sceneOk l = false from by rw [sceneOk, ← HS.out, hstep.out, e2]; simp [Bod.ok, Bod.fine, Bod.rests, e1, e3, e4, e5]]; rfl
          · go_wp2_with (go_at_call 69; refine (valid_c _ _ _ _ _ _ _ _ _).mono ?_; rintro e w1 ⟨rfl, hb⟩; obtain ⟨hc, hf⟩ := bcell hb; have hsz1 := hb.size; simp at hsz1; have hl : wr.heap.size + 1 < w1.heap.size := (by omega); have hM1 := Aside.mk (hM.at (heap_be hb (by simp; omega) (heap_al (by simp; omega) (heap_al hlt' rfl)))); have hlk := HLK.out (w1 := w1) (heap_be hb (by simp; omega) (heap_al (by simp; omega) (heap_al hlt' rfl))); rw [e2] at hlk)
            go_ret
            refine ⟨ret_int ?_, (by repeat (with_reducible first | exact Below.refl _ _ | assumption | refine Below.al ?_ _ | refine Below.dr ?_ | refine Below.drn ?_ _ | refine Below.sc ?_ (by simp <;> omega) _ | refine Below.th ?_ (by assumption)))⟩
            rw [show sceneOk l = false from by rw [sceneOk, ← HS.out, hstep.out, e2]; simp [Bod.ok, Bod.fine, Bod.rests, e1]]; rfl
      · obtain rfl : k = l.length := by omega
        go_wp2
        go_ret
        refine ⟨ret_int ?_, (by repeat (with_reducible first | exact Below.refl _ _ | assumption | refine Below.al ?_ _ | refine Below.dr ?_ | refine Below.drn ?_ _ | refine Below.sc ?_ (by simp <;> omega) _ | refine Below.th ?_ (by assumption)))⟩
        rw [show sceneOk l = true from by rw [sceneOk, ← HS.out]; simp [sceneGo, h16]]; rfl
  · go_enter Try.func58, Try.ntmps58
    go_wp2
    go_ret
    exact ⟨ret_int (by simp [sceneOk, h16, eArg]), (by repeat (with_reducible first | exact Below.refl _ _ | assumption | refine Below.al ?_ _ | refine Below.dr ?_ | refine Below.drn ?_ _ | refine Below.sc ?_ (by simp <;> omega) _ | refine Below.th ?_ (by assumption)))⟩
end Go.Proofs.Ytknpkldmihhddaa
