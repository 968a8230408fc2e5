/- Contract of contact.Check: whether a scene is valid. -/
import Derived.Test.YtjbgdpbeabakiaaB1
import Derived.Test.YtjbgdpbeabakiaaM
namespace Go.Proofs.Ytjbgdpbeabakiaa
open Go.RowKit
set_option linter.unusedVariables false
set_option linter.unusedSimpArgs false

structure Bod where
  t : Int
  n : Int
  x : Int
  y : Int
  u : Int
  v : Int
  s : Int
  o : Bool
deriving DecidableEq
def Bod.cs (b : Bod) : List Value := [.int .i64 b.t, .int .i64 b.n, .int .i64 b.x, .int .i64 b.y, .int .i64 b.u, .int .i64 b.v, .int .i64 b.s, .bool b.o]
theorem Bod.cs_len (b : Bod) : b.cs.length = 8 := rfl
def bodies (l : List Bod) : List Value := cells Bod.cs l
def Bod.ok (b : Bod) : Bool := bodyOk b.t b.n b.x b.y b.u b.v b.s
def restB (u v : Int) : Bool := decide (u = 0) && decide (v = 0)
def Bod.rests (b : Bod) : Bool := restB b.u b.v
def Bod.fine (b : Bod) : Bool := !b.o || (b.rests && !(b.s != 0))
def sceneGo (seen : List (Int × Int)) : List Bod → Bool
  | [] => true
  | b :: l => b.ok && !seen.contains (b.t, b.n) && b.fine && sceneGo (seen ++ [(b.t, b.n)]) l
def sceneOk (l : List Bod) : Bool := decide (l.length ≤ 16) && sceneGo [] l
def names (l : List Bod) : List (Int × Int) := l.map fun b => (b.t, b.n)
def kv (l : List (Int × Int)) : List ((Int × Int) × Value) := l.map fun p => (p, .bool true)
theorem kv_lookup (l : List (Int × Int)) (p : Int × Int) : ((kv l).lookup p).getD (.bool false) = .bool (l.contains p) := by
  induction l with
  | nil => simp [kv]
  | cons q l ih =>
    simp only [kv, List.map_cons, List.lookup] at *
    by_cases h : p = q
    · simp [h]
    · simp [h, beq_eq_false_iff_ne.2 h, ih]
theorem kv_none {l : List (Int × Int)} {p : Int × Int} (h : l.contains p = false) : (kv l).lookup p = none := by
  induction l with
  | nil => simp [kv]
  | cons q l ih =>
    simp only [kv, List.map_cons, List.lookup] at *
    simp at h
    simp [beq_eq_false_iff_ne.2 h.1]
    simpa [kv] using ih (by simpa using h.2)

theorem kv_snoc (l : List (Int × Int)) (p : Int × Int) : kv (l ++ [p]) = kv l ++ [(p, .bool true)] := by simp [kv]
theorem names_snoc (l : List Bod) (k : Nat) (hk : k < l.length) : names (l.take (k + 1)) = names (l.take k) ++ [(l[k].t, l[k].n)] := by
  unfold names; rw [List.take_succ_eq_append_getElem hk, List.map_append]; rfl
theorem scene_step (l : List Bod) (k : Nat) (hk : k < l.length) : sceneGo (names (l.take k)) (l.drop k) = (l[k].ok && !(names (l.take k)).contains (l[k].t, l[k].n) && l[k].fine && sceneGo (names (l.take (k + 1))) (l.drop (k + 1))) := by
  rw [names_snoc l k hk, List.drop_eq_getElem_cons hk]; rfl
theorem Arr.bod {w : World} {A : Option Addr} {l : List Bod} (h : Arr w A (bodies l)) {i : Nat} (hi : i < l.length) :
    ∃ b o, A = some ⟨b, o, none⟩ ∧ b < w.heap.size ∧ w.cell? ⟨b, o + i * 8, none⟩ = some (.int .i64 (l[i].t)) ∧ w.cell? ⟨b, o + i * 8 + 1, none⟩ = some (.int .i64 (l[i].n)) ∧ w.cell? ⟨b, o + i * 8 + 2, none⟩ = some (.int .i64 (l[i].x)) ∧ w.cell? ⟨b, o + i * 8 + 3, none⟩ = some (.int .i64 (l[i].y)) ∧
      w.cell? ⟨b, o + i * 8 + 4, none⟩ = some (.int .i64 (l[i].u)) ∧ w.cell? ⟨b, o + i * 8 + 5, none⟩ = some (.int .i64 (l[i].v)) ∧ w.cell? ⟨b, o + i * 8 + 6, none⟩ = some (.int .i64 (l[i].s)) ∧ w.cell? ⟨b, o + i * 8 + 7, none⟩ = some (.bool (l[i].o)) := by
  obtain ⟨b, o, hA, hb, hc⟩ := h.at Bod.cs_len (by omega) hi
  exact ⟨b, o, hA, hb, hc 0 (by omega), hc 1 (by omega), hc 2 (by omega), hc 3 (by omega), hc 4 (by omega), hc 5 (by omega), hc 6 (by omega), hc 7 (by omega)⟩

end Go.Proofs.Ytjbgdpbeabakiaa
