/- Contracts of glide.CheckBrooms, skill.CheckCall, counted. -/
import Derived.Test.YtjbgdpbeabakiaaB3
namespace Go.Proofs.Ytjbgdpbeabakiaa
open Go.RowKit
set_option linter.unusedVariables false
set_option linter.unusedSimpArgs false

structure Brm where
  f : Int
  t : Int
  g : Int
deriving DecidableEq
def Brm.cs (b : Brm) : List Value := [.int .i64 b.f, .int .i64 b.t, .int .i64 b.g]
theorem Brm.cs_len (b : Brm) : b.cs.length = 3 := rfl
def brooms (l : List Brm) : List Value := cells Brm.cs l
def Brm.bad (b : Brm) : Bool := badBroom b.f b.t b.g
theorem Arr.brm {w : World} {A : Option Addr} {l : List Brm} (h : Arr w A (brooms l)) {i : Nat} (hi : i < l.length) :
    ∃ b o, A = some ⟨b, o, none⟩ ∧ b < w.heap.size ∧ w.cell? ⟨b, o + i * 3, none⟩ = some (.int .i64 (l[i].f)) ∧ w.cell? ⟨b, o + i * 3 + 1, none⟩ = some (.int .i64 (l[i].t)) ∧ w.cell? ⟨b, o + i * 3 + 2, none⟩ = some (.int .i64 (l[i].g)) := by
  obtain ⟨b, o, hA, hb, hc⟩ := h.at Brm.cs_len (by omega) hi
  exact ⟨b, o, hA, hb, hc 0 (by omega), hc 1 (by omega), hc 2 (by omega)⟩
def broomsOk (l : List Brm) : Bool := decide (l.length ≤ 64) && !l.any Brm.bad
def countedB (l : List Int) : Bool := inR l.length 1 49 && !l.any badCount
theorem counted_c (A : Option Addr) (c : Nat) (l : List Int) (w : World) (hr : Arr w A (ints l)) (hl : l.length < 4294967296) :
    Calls Try.prog 52 #[.slice A l.length c] w fun e w' => e = .returned (.bool (countedB l)) ∧ w = w' := by
  cases h : inR l.length 1 49
  all_goals
    go_enter Try.func52, Try.ntmps52
    go_wp2_with (first | (go_at_call 60; refine (skill_within_c _ _ _ _).mono ?_; rintro e w' ⟨rfl, rfl⟩) | (go_at_call 61; refine (ContainsCount_c _ _ _ _ hr hl).mono ?_; rintro e w' ⟨rfl, rfl⟩))
    go_ret
    exact ⟨ret_bool (by simp [countedB, h]), rfl⟩
def callOk (t n x y u v s : Int) (l : List Brm) (p q : Int) : Bool :=
  sceneOk [⟨t, n, x, y, u, v, s, false⟩] && !restB u v && broomsOk l && inR p 0 8192000 && inR q 0 8192000
end Go.Proofs.Ytjbgdpbeabakiaa
