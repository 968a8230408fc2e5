/- Chapter 11: rows of counts in memory; contracts of skip's small functions: within, counted, CheckRivals, CheckState, sure. -/
import Derived.Test.YtjbgdpbeabakiaaP1
import Derived.Test.YtjbgdpbeabakiaaM2
namespace Go.Proofs.Ytjbgdpbeabakiaa
open Go.RowKit Go.Shelf
set_option linter.unusedVariables false
set_option linter.unusedSimpArgs false
/-- A row of cells below block B that reads as a list. -/
def ArrB (B : Nat) (w : World) (A : Option Addr) (cs : List Value) : Prop :=
  cs = [] ∨ ∃ b o, A = some ⟨b, o, none⟩ ∧ b < B ∧ ∀ i, i < cs.length → w.cell? ⟨b, o + i, none⟩ = cs[i]?
theorem ArrB.arr {B : Nat} {w : World} {A : Option Addr} {cs : List Value} (h : ArrB B w A cs) (hB : B ≤ w.heap.size) : Arr w A cs := by
  rcases h with h | ⟨b, o, hA, hl, hc⟩
  · exact .inl h
  · exact .inr ⟨b, o, hA, by omega, hc⟩
theorem Arr.arrB {w : World} {A : Option Addr} {cs : List Value} (h : Arr w A cs) : ArrB w.heap.size w A cs := h
theorem ArrB.mono {B B' : Nat} {w : World} {A : Option Addr} {cs : List Value} (h : ArrB B w A cs) (hB : B ≤ B') : ArrB B' w A cs := by
  rcases h with h | ⟨b, o, hA, hl, hc⟩
  · exact .inl h
  · exact .inr ⟨b, o, hA, by omega, hc⟩
theorem ArrB.below {B : Nat} {w w' : World} {A : Option Addr} {cs : List Value} (h : ArrB B w A cs) (hb : Below B w w') : ArrB B w' A cs := by
  rcases h with h | ⟨b, o, hA, hl, hc⟩
  · exact .inl h
  · exact .inr ⟨b, o, hA, hl, fun i hi => (hb.cell (p := ⟨b, o + i, none⟩) hl).trans (hc i hi)⟩
/-- Rows of whole numbers below block B: a slice of slices. -/
def Rows (B : Nat) (w : World) (A : Option Addr) (ll : List (List Int)) : Prop :=
  ll = [] ∨ ∃ b o, A = some ⟨b, o, none⟩ ∧ b < B ∧ ∀ i, (h : i < ll.length) → ∃ A' c', w.cell? ⟨b, o + i, none⟩ = some (.slice A' ll[i].length c') ∧ ArrB B w A' (ints ll[i])
theorem Rows.below {B : Nat} {w w' : World} {A : Option Addr} {ll : List (List Int)} (h : Rows B w A ll) (hb : Below B w w') : Rows B w' A ll := by
  rcases h with h | ⟨b, o, hA, hl, hc⟩
  · exact .inl h
  · refine .inr ⟨b, o, hA, hl, fun i hi => ?_⟩
    obtain ⟨A', c', h1, h2⟩ := hc i hi
    exact ⟨A', c', (hb.cell (p := ⟨b, o + i, none⟩) hl).trans h1, h2.below hb⟩
theorem Rows.mono {B B' : Nat} {w : World} {A : Option Addr} {ll : List (List Int)} (h : Rows B w A ll) (hB : B ≤ B') : Rows B' w A ll := by
  rcases h with h | ⟨b, o, hA, hl, hc⟩
  · exact .inl h
  · refine .inr ⟨b, o, hA, by omega, fun i hi => ?_⟩
    obtain ⟨A', c', h1, h2⟩ := hc i hi
    exact ⟨A', c', h1, h2.mono hB⟩
theorem Rows.at {B : Nat} {w : World} {A : Option Addr} {ll : List (List Int)} (h : Rows B w A ll) {i : Nat} (hi : i < ll.length) :
    ∃ b o A' c', A = some ⟨b, o, none⟩ ∧ b < B ∧ w.cell? ⟨b, o + i, none⟩ = some (.slice A' ll[i].length c') ∧ ArrB B w A' (ints ll[i]) := by
  rcases h with h | ⟨b, o, hA, hl, hc⟩
  · subst h; simp at hi
  · obtain ⟨A', c', h1, h2⟩ := hc i hi
    exact ⟨b, o, A', c', hA, hl, h1, h2⟩
def Short (ll : List (List Int)) : Prop := ∀ i, (h : i < ll.length) → ll[i].length ≤ 60
/-- rivals: the styles of both teams, and the doubt -/
structure Riv where
  a : List (List Int)
  b : List (List Int)
  d : Int
def Riv.st (m : Riv) (h : Int) : List (List Int) := if h = 0 then m.a else m.b
def badStyle (c : List Int) : Bool := !(countedB c && decide ((c.length : Int) = 17))
def stylesOk (ll : List (List Int)) : Bool := inR ll.length 1 8 && !ll.any badStyle
def rivOk (m : Riv) : Bool := stylesOk m.a && stylesOk m.b && inR m.d 1 1000
def stOk (n l h : Int) : Bool := inR n 0 12 && inR l (-96) 96 && inR h 0 1

theorem skip_within_c (a b c : Int) (w : World) : Calls Try.prog 24 #[.int .i64 a, .int .i64 b, .int .i64 c] w fun e w' => e = .returned (.bool (inR a b c)) ∧ w = w' := by
  by_cases h1 : b ≤ a
  · by_cases h2 : a ≤ c
    all_goals
      go_enter Try.func24, Try.ntmps24
      go_wp2
      go_ret
      exact ⟨ret_bool (by simp [inR, *]), rfl⟩
  · go_enter Try.func24, Try.ntmps24
    go_wp2
    go_ret
    exact ⟨ret_bool (by simp [inR, *]; omega), rfl⟩
theorem givenOk_nil (l : List Int) : givenOk l [] = countedB l := by simp [givenOk, eventB]
theorem skip_counted_c (A : Option Addr) (c : Nat) (l : List Int) (many : Int) (w : World) (hr : Arr w A (ints l)) (hl : l.length < 4294967296) :
    Calls Try.prog 31 #[.slice A l.length c, .int .i64 many] w fun e w' => e = .returned (.bool (countedB l && decide ((l.length : Int) = many))) ∧ Below w.heap.size w w' := by
  have K1 := Aside.mk (fun w hr => Given_c A none c 0 l [] w hr (Arr.nil w none) hl (by simp))
  cases e1 : countedB l
  · go_enter Try.func31, Try.ntmps31
    go_wp2_with fail
    refine (K1.out _ hr).mono ?_
    rintro e w' ⟨A', c', rfl, _, zb⟩
    rw [givenOk_nil, e1, eArg]
    go_wp2
    go_ret
    exact ⟨ret_bool (by simp), (by repeat (with_reducible first | exact Below.refl _ _ | assumption | refine Below.al ?_ _ | refine Below.dr ?_ | refine Below.drn ?_ _ | refine Below.sc ?_ (by simp <;> omega) _ | refine Below.th ?_ (by assumption)))⟩
  · by_cases e2 : (l.length : Int) = many
    · have e3 : ((l.length : Int) == many) = true := by simp [e2]
      have E2 := Lib.hid e2
      clear e2
      go_enter Try.func31, Try.ntmps31
      go_wp2_with fail
      refine (K1.out _ hr).mono ?_
      rintro e w' ⟨A', c', rfl, _, zb⟩
      rw [givenOk_nil, e1, eArg]
      go_wp2
      go_ret
      exact ⟨ret_bool (by simp [E2.out]), (by repeat (with_reducible first | exact Below.refl _ _ | assumption | refine Below.al ?_ _ | refine Below.dr ?_ | refine Below.drn ?_ _ | refine Below.sc ?_ (by simp <;> omega) _ | refine Below.th ?_ (by assumption)))⟩
    · have e3 : ((l.length : Int) == many) = false := by simp [e2]
      go_enter Try.func31, Try.ntmps31
      go_wp2_with fail
      refine (K1.out _ hr).mono ?_
      rintro e w' ⟨A', c', rfl, _, zb⟩
      rw [givenOk_nil, e1, eArg]
      go_wp2
      go_ret
      exact ⟨ret_bool (by simp [e2]), (by repeat (with_reducible first | exact Below.refl _ _ | assumption | refine Below.al ?_ _ | refine Below.dr ?_ | refine Below.drn ?_ _ | refine Below.sc ?_ (by simp <;> omega) _ | refine Below.th ?_ (by assumption)))⟩
theorem CheckRivals1_c (A : Option Addr) (c : Nat) (l : List Int) (w : World) (hr : Arr w A (ints l)) (hl : l.length < 4294967296) :
    Calls Try.prog 30 #[.slice A l.length c] w fun e w' => e = .returned (.bool (badStyle l)) ∧ Below w.heap.size w w' := by
  go_enter Try.func30, Try.ntmps30
  go_wp2_with fail
  refine (skip_counted_c _ _ _ _ _ hr hl).mono ?_
  rintro e w' ⟨rfl, zb⟩
  go_wp2
  go_ret
  exact ⟨ret_bool (by simp [badStyle]), (by repeat (with_reducible first | exact Below.refl _ _ | assumption | refine Below.al ?_ _ | refine Below.dr ?_ | refine Below.drn ?_ _ | refine Below.sc ?_ (by simp <;> omega) _ | refine Below.th ?_ (by assumption)))⟩
set_option maxHeartbeats 1000000 in
theorem IndexStyle_c (A : Option Addr) (c : Nat) (ll : List (List Int)) (w : World) (hr : Rows w.heap.size w A ll) (hl : ll.length < 4294967296) (hs : Short ll) :
    Calls Try.prog 39 #[.slice A ll.length c, .func (.func 30) #[] #[]] w fun e w' => e = .returned (.int .i64 (idx badStyle ll)) ∧ Below w.heap.size w w' := by
  have HS := Aside.mk hs
  clear hs
  go_enter Try.func39, Try.ntmps39
  go_wp2
  go_loopw [5, 8] (fun a i wr => ∃ k : Nat, k ≤ ll.length ∧ i = .int .i64 k ∧ Below w.heap.size w wr ∧ Hid (NoBefore badStyle ll k)) (fun _ i _ => ll.length - (intOf i).toNat)
  case atStart => exact ⟨0, Nat.zero_le _, rfl, Below.refl _ _, NoBefore.zero _ _⟩
  case round =>
    obtain ⟨k, hk, rfl, hB, HN⟩ := hrel
    by_cases hlt : k < ll.length
    · obtain ⟨b, o, A', c', rfl, hb, hcell, ha⟩ := (hr.below hB).at hlt
      have h60 := HS.out k hlt
      have ha := ha.arr hB.size
      have hsucc := Aside.mk (fun h => HN.out.succ hlt h)
      have hhit := Aside.mk (fun h => idx_hit badStyle ll k hlt HN.out h)
      have hbs := hB.size
      have hb' : b < wr.heap.size := by omega
      generalize ll[k] = l at *
      cases hp : badStyle l
      · have HP := Lib.hid hp
        go_wp2_with fail
        refine (CheckRivals1_c _ _ _ _ ha (by omega)).mono ?_
        rintro e w' ⟨rfl, zb⟩
        rw [HP.out]
        go_wp2
        go_roundw
        case rel => exact ⟨k + 1, by omega, by go_num, Below.th hB zb, hsucc.out HP.out⟩
        case measure => simp [intOf]; omega
      · have HP := Lib.hid hp
        go_wp2_with fail
        refine (CheckRivals1_c _ _ _ _ ha (by omega)).mono ?_
        rintro e w' ⟨rfl, zb⟩
        rw [HP.out]
        go_wp2
        go_ret
        exact ⟨ret_int (hhit.out HP.out).symm, Below.th hB zb⟩
    · obtain rfl : k = ll.length := by omega
      go_wp2
      go_ret
      exact ⟨ret_int (idx_none _ _ HN.out).symm, hB⟩
theorem ContainsStyle_c (A : Option Addr) (c : Nat) (ll : List (List Int)) (w : World) (hr : Rows w.heap.size w A ll) (hl : ll.length < 4294967296) (hs : Short ll) :
    Calls Try.prog 29 #[.slice A ll.length c, .func (.func 30) #[] #[]] w fun e w' => e = .returned (.bool (ll.any badStyle)) ∧ Below w.heap.size w w' := by
  go_enter Try.func29, Try.ntmps29
  go_wp2_with (go_at_call 39; refine (IndexStyle_c _ _ _ _ hr hl hs).mono ?_; rintro e w' ⟨rfl, zb⟩; obtain ⟨zc, zf⟩ := bcell zb; have zz := zb.size; (try simp at zz); (try have zq := fun b (h : b < w.heap.size) => (by omega : b < w'.heap.size)); (try have zq0 : w.heap.size < w'.heap.size := by omega); (try have zq1 : w.heap.size + 1 < w'.heap.size := by omega); (try have zq2 : w.heap.size + 2 < w'.heap.size := by omega); (try have zr0 : wr.heap.size < w'.heap.size := by omega); (try have zr1 : wr.heap.size + 1 < w'.heap.size := by omega))
  go_ret
  exact ⟨ret_bool (by rw [← idx_any]), (by repeat (with_reducible first | exact Below.refl _ _ | assumption | refine Below.al ?_ _ | refine Below.dr ?_ | refine Below.drn ?_ _ | refine Below.sc ?_ (by simp <;> omega) _ | refine Below.th ?_ (by assumption)))⟩
theorem CheckState_c (n l h : Int) (w : World) : Calls Try.prog 14 #[.agg #[.int .i64 n, .int .i64 l, .int .i64 h]] w fun e w' => e = .returned (.int .i64 (eArg (stOk n l h))) ∧ Below w.heap.size w w' := by
  cases h1 : inR n 0 12
  · go_enter Try.func14, Try.ntmps14
    go_wp2_with (go_at_call 24; refine (skip_within_c _ _ _ _).mono ?_; rintro e w' ⟨rfl, rfl⟩)
    go_ret
    exact ⟨ret_int (by simp [stOk, eArg, h1]), (by repeat (with_reducible first | exact Below.refl _ _ | assumption | refine Below.al ?_ _ | refine Below.dr ?_ | refine Below.drn ?_ _ | refine Below.sc ?_ (by simp <;> omega) _ | refine Below.th ?_ (by assumption)))⟩
  · cases h2 : inR l (-96) 96
    · go_enter Try.func14, Try.ntmps14
      go_wp2_with (go_at_call 24; refine (skip_within_c _ _ _ _).mono ?_; rintro e w' ⟨rfl, rfl⟩)
      go_ret
      exact ⟨ret_int (by simp [stOk, eArg, h1, h2]), (by repeat (with_reducible first | exact Below.refl _ _ | assumption | refine Below.al ?_ _ | refine Below.dr ?_ | refine Below.drn ?_ _ | refine Below.sc ?_ (by simp <;> omega) _ | refine Below.th ?_ (by assumption)))⟩
    · cases h3 : inR h 0 1
      all_goals
        go_enter Try.func14, Try.ntmps14
        go_wp2_with (go_at_call 24; refine (skip_within_c _ _ _ _).mono ?_; rintro e w' ⟨rfl, rfl⟩)
        go_ret
        exact ⟨ret_int (by simp [stOk, eArg, h1, h2, h3]), (by repeat (with_reducible first | exact Below.refl _ _ | assumption | refine Below.al ?_ _ | refine Below.dr ?_ | refine Below.drn ?_ _ | refine Below.sc ?_ (by simp <;> omega) _ | refine Below.th ?_ (by assumption)))⟩
def sureH (b : Bool) : Int × Int := if b then (65536, 65536) else (0, 0)
theorem sure_c (b : Bool) (w : World) : Calls Try.prog 43 #[.bool b] w fun e w' => e = .returned (.agg #[.int .i64 (sureH b).1, .int .i64 (sureH b).2]) ∧ Below w.heap.size w w' := by
  cases b
  · go_enter Try.func43, Try.ntmps43
    go_wp2
    refine bodyPost_ret (v := .agg #[.int .i64 0, .int .i64 0]) (by simp [results, Try.results43, go_sem]) rfl ?_
    exact ⟨rfl, (by repeat (with_reducible first | exact Below.refl _ _ | assumption | refine Below.al ?_ _ | refine Below.dr ?_ | refine Below.drn ?_ _ | refine Below.sc ?_ (by simp <;> omega) _ | refine Below.th ?_ (by assumption)))⟩
  · go_enter Try.func43, Try.ntmps43
    go_wp2
    refine bodyPost_ret (v := .agg #[.int .i64 65536, .int .i64 65536]) (by simp [results, Try.results43, go_sem]) rfl ?_
    exact ⟨rfl, (by repeat (with_reducible first | exact Below.refl _ _ | assumption | refine Below.al ?_ _ | refine Below.dr ?_ | refine Below.drn ?_ _ | refine Below.sc ?_ (by simp <;> omega) _ | refine Below.th ?_ (by assumption)))⟩
end Go.Proofs.Ytjbgdpbeabakiaa
