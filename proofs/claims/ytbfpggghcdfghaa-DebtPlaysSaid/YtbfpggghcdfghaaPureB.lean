/- Which lists of accounts a book can be opened with, in plain words. -/
import Derived.Test.YtbfpggghcdfghaaHandD
namespace Go.Proofs.Ytbfpggghcdfghaa.PA
open Go.Maps Go.WideShapes Go.Proofs.Ytbfpggghcdfghaa.Hand

def okB (a : Acct) : Bool := decide ((a.1.size : Int) = 8 ∧ a.2.1 ≤ 9007199254740992 ∧ 0 ≤ a.2.2 ∧ a.2.2 ≤ a.2.1)
theorem ok_iff (a : Acct) : okB a = true ↔ Ok a := by
  unfold okB Ok
  simp only [decide_eq_true_eq]
  omega
/-- What is found from here on, behind that token. -/
def chk : Option ByteArray → List Acct → Int
  | _, [] => 0
  | prev, a :: r => if okB a = false then 80 else if (match prev with | none => false | some p => decide (¬ lt p a.1)) = true then 220 else chk (some a.1) r
def openE (l : List Acct) : Int := if 1000 < l.length then 2 else chk none l
def prevOf (l : List Acct) : Nat → Option ByteArray
  | 0 => none
  | k + 1 => (l[k]?).map (fun x => x.1)
theorem prev_succ (l : List Acct) (k : Nat) (hk : k < l.length) : prevOf l (k + 1) = some l[k].1 := by simp [prevOf, hk]
theorem chk_step (l : List Acct) (k : Nat) (hk : k < l.length) : chk (prevOf l k) (l.drop k) =
    if okB l[k] = false then 80 else if (match prevOf l k with | none => false | some p => decide (¬ lt p l[k].1)) = true then 220 else chk (prevOf l (k + 1)) (l.drop (k + 1)) := by
  rw [List.drop_eq_getElem_cons hk, prev_succ l k hk]
  rfl
/-- What stood so far is a book, in order. -/
structure Opened (l : List Acct) (k : Nat) : Prop where
  rise : Rise (l.take k)
  ok : ∀ x ∈ l.take k, Ok x
theorem opened_zero (l : List Acct) : Opened l 0 := ⟨rise_nil, fun _ h => absurd h (by simp)⟩
theorem Opened.next {l : List Acct} {k : Nat} (h : Opened l k) (hk : k < l.length) (h1 : okB l[k] = true) (h2 : ∀ p, prevOf l k = some p → lt p l[k].1) : Opened l (k + 1) := by
  have e := List.take_succ_eq_append_getElem hk
  refine ⟨?_, ?_⟩
  · rw [e]
    refine List.pairwise_append.2 ⟨h.rise, by simp, ?_⟩
    intro x hx y hy
    simp at hy
    subst hy
    obtain ⟨i, hi, rfl⟩ := List.mem_iff_getElem.1 hx
    rw [List.length_take] at hi
    rw [List.getElem_take]
    cases k with
    | zero => omega
    | succ j =>
      have hj : j < l.length := by omega
      have hp := h2 l[j].1 (prev_succ l j hj)
      by_cases e : i = j
      · subst e
        exact hp
      · have := List.pairwise_iff_getElem.1 h.rise i j (by rw [List.length_take]; omega) (by rw [List.length_take]; omega) (by omega)
        rw [List.getElem_take, List.getElem_take] at this
        exact lt_trans this hp
  · rw [e]
    intro x hx
    rcases List.mem_append.1 hx with hx | hx
    · exact h.ok x hx
    · simp at hx
      subst hx
      exact (ok_iff _).1 h1
theorem ins_last {x : Acct} : ∀ {m : List Acct}, (∀ y ∈ m, lt y.1 x.1) → insS x m = m ++ [x]
  | [], _ => rfl
  | y :: r, h => by
    unfold insS
    have hy : ¬ bytesBefore (toL x.1) (toL y.1) = true := lt_asymm (h y (by simp))
    rw [if_neg hy, ins_last (fun z hz => h z (by simp [hz]))]
    rfl
theorem put_last {m : List Acct} {t : ByteArray} (c p : Int) (h : ∀ y ∈ m, lt y.1 t) : putS m t c p = m ++ [(t, c, p)] := by
  unfold putS
  have : delS m t = m := List.filter_eq_self.2 fun x hx => by simp [lt_ne (h x hx)]
  rw [this]
  exact ins_last h
theorem Opened.put {l : List Acct} {k : Nat} (h : Opened l (k + 1)) (hk : k < l.length) : putS (l.take k) l[k].1 l[k].2.1 l[k].2.2 = l.take (k + 1) := by
  have e := List.take_succ_eq_append_getElem hk
  rw [put_last, e]
  intro y hy
  have h1 := h.rise
  rw [e] at h1
  exact (List.pairwise_append.1 h1).2.2 y hy l[k] (by simp)
theorem Opened.fine {l : List Acct} {k : Nat} (h : Opened l k) (hl : l.length ≤ 1000) : Fine (l.take k) := ⟨h.rise, h.ok, by rw [List.length_take]; omega⟩
end Go.Proofs.Ytbfpggghcdfghaa.PA
