/- The plain laws of sums and differences: the program's are the document's. -/
import Derived.Test.YtdioaclegmalpaaDoorHandC
import Derived.Test.YtdioaclegmalpaaDoorXAx2
namespace Go.Proofs.YtdioaclegmalpaaDoor.Hand
open Go.RowKit Go.Proofs.YtdioaclegmalpaaDoorW.PrintWords Go.Proofs.YtdioaclegmalpaaDoor.XA

def RightP (n : Int) : Prop := -9007199254740992 ≤ n ∧ n ≤ 9007199254740992
instance (n : Int) : Decidable (RightP n) := inferInstanceAs (Decidable (_ ∧ _))
theorem rightS_def (n : Int) : rightS n = decide (RightP n) := rfl
def addS (a b : Int) : Int × Int := if RightP a ∧ RightP b ∧ RightP (a + b) then (a + b, 0) else (0, 50)
def subS (a b : Int) : Int × Int := if RightP a ∧ RightP b ∧ RightP (a - b) then (a - b, 0) else (0, 50)
def sumFrom (acc : Int) : List Int → Int × Int
  | [] => (acc, 0)
  | x :: r => if (addS acc x).2 = 0 then sumFrom (addS acc x).1 r else (0, 50)
theorem wrap_ok (n : Int) (h : -9223372036854775808 ≤ n ∧ n ≤ 9223372036854775807) : wrap64 n = n := by unfold wrap64; omega
theorem checked_succ (k : Nat) (n : Int) (l : List Int) (m i : Int) : money_checked.l0 (k + 1) n l m i = if i < m then (if 0 ≤ i then (if i < (l.length : Int) then ((money_Right.f (rd l i)).bind fun t102 => (if t102 = true then (money_checked.l0 k n l m (wrap64 (i + 1))) else (some (0, 50)))) else (none)) else (none)) else ((money_Right.f n).bind fun t103 => (if t103 = true then (some (n, 0)) else (some (0, 50)))) := by rw [money_checked.l0]
theorem checked_two (k : Nat) (n a b : Int) : money_checked.f (k + 3) n [a, b] = some (if RightP a ∧ RightP b ∧ RightP n then (n, 0) else (0, 50)) := by
  unfold money_checked.f
  show money_checked.l0 (k + 2 + 1) n [a, b] 2 0 = _
  rw [checked_succ, if_pos (by decide), if_pos (by decide), if_pos (show (0 : Int) < (([a, b] : List Int).length : Int) by simp), show rd [a, b] 0 = a from rfl, right_f, show wrap64 (0 + 1) = 1 from wrap_ok _ (by omega), rightS_def]
  show (if decide (RightP a) = true then _ else _) = _
  by_cases ha : RightP a
  · rw [if_pos (decide_eq_true ha), checked_succ, if_pos (by decide), if_pos (by decide), if_pos (show (1 : Int) < (([a, b] : List Int).length : Int) by simp), show rd [a, b] 1 = b from rfl, right_f, show wrap64 (1 + 1) = 2 from wrap_ok _ (by omega), rightS_def]
    show (if decide (RightP b) = true then _ else _) = _
    by_cases hb : RightP b
    · rw [if_pos (decide_eq_true hb), checked_succ, if_neg (by decide), right_f, rightS_def]
      show (if decide (RightP n) = true then _ else _) = _
      by_cases hn : RightP n
      · rw [if_pos (decide_eq_true hn), if_pos ⟨ha, hb, hn⟩]
      · rw [if_neg (by simpa using hn), if_neg (fun h => hn h.2.2)]
    · rw [if_neg (by simpa using hb), if_neg (fun h => hb h.2.1)]
  · rw [if_neg (by simpa using ha), if_neg (fun h => ha h.1)]
theorem add_f (k : Nat) (a b : Int) : money_Add.f (k + 3) a b = some (addS a b) := by
  unfold money_Add.f addS
  rw [checked_two]
  show some (_, _) = _
  by_cases h : RightP a ∧ RightP b
  · have e : wrap64 (a + b) = a + b := wrap_ok _ (by have h1 := h.1; have h2 := h.2; unfold RightP at h1 h2; omega)
    rw [e]
  · rw [if_neg (fun g => h ⟨g.1, g.2.1⟩), if_neg (fun g => h ⟨g.1, g.2.1⟩)]
theorem sub_f (k : Nat) (a b : Int) : money_Sub.f (k + 3) a b = some (subS a b) := by
  unfold money_Sub.f subS
  rw [checked_two]
  show some (_, _) = _
  by_cases h : RightP a ∧ RightP b
  · have e : wrap64 (a - b) = a - b := wrap_ok _ (by have h1 := h.1; have h2 := h.2; unfold RightP at h1 h2; omega)
    rw [e]
  · rw [if_neg (fun g => h ⟨g.1, g.2.1⟩), if_neg (fun g => h ⟨g.1, g.2.1⟩)]
theorem radd_j0 (k : Nat) (a b : Int) (c : Bool) : fareboxref05_Add.j0 (k + 1) a b c = if c = true then (some (0, 50)) else ((fareboxref05_Right.f (wrap64 (a + b))).bind fun t126 => (if t126 = true then (some (wrap64 (a + b), 0)) else (some (0, 50)))) := by rw [fareboxref05_Add.j0]
theorem radd_f (k : Nat) (a b : Int) : fareboxref05_Add.f (k + 1) a b = some (addS a b) := by
  unfold fareboxref05_Add.f addS
  rw [rright_f, rright_f, rightS_def, rightS_def]
  show (if decide (RightP a) = true then fareboxref05_Add.j0 (k + 1) a b (!decide (RightP b)) else fareboxref05_Add.j0 (k + 1) a b true) = _
  by_cases ha : RightP a
  · rw [if_pos (decide_eq_true ha), radd_j0]
    by_cases hb : RightP b
    · have e : wrap64 (a + b) = a + b := wrap_ok _ (by unfold RightP at ha hb; omega)
      rw [if_neg (by simpa using hb), e, rright_f, rightS_def]
      show (if decide (RightP (a + b)) = true then _ else _) = _
      by_cases hn : RightP (a + b)
      · rw [if_pos (decide_eq_true hn), if_pos ⟨ha, hb, hn⟩]
      · rw [if_neg (by simpa using hn), if_neg (fun h => hn h.2.2)]
    · rw [if_pos (by simpa using hb), if_neg (fun h => hb h.2.1)]
  · rw [if_neg (by simpa using ha), radd_j0, if_pos rfl, if_neg (fun h => ha h.1)]
theorem rsub_f (k : Nat) (a b : Int) : fareboxref05_Sub.f (k + 1) a b = some (subS a b) := by
  unfold fareboxref05_Sub.f
  rw [rright_f, rightS_def]
  show (if decide (RightP b) = true then _ else _) = _
  by_cases hb : RightP b
  · have e : wrap64 (-b) = -b := wrap_ok _ (by unfold RightP at hb; omega)
    have hb' : RightP (-b) := by unfold RightP at hb ⊢; omega
    rw [if_pos (decide_eq_true hb), e, radd_f]
    show some (_, _) = _
    unfold addS subS
    rw [← Int.sub_eq_add_neg]
    by_cases h : RightP a ∧ RightP (a - b)
    · rw [if_pos ⟨h.1, hb', h.2⟩, if_pos ⟨h.1, hb, h.2⟩]
    · rw [if_neg (fun g => h ⟨g.1, g.2.2⟩), if_neg (fun g => h ⟨g.1, g.2.2⟩)]
  · unfold subS
    rw [if_neg (by simpa using hb), if_neg (fun h => hb h.2.1)]
theorem add_err (a b : Int) (h : ¬ (addS a b).2 = 0) : (addS a b).2 = 50 := by
  unfold addS at h ⊢
  split
  · rename_i g; rw [if_pos g] at h; exact absurd rfl h
  · rfl
theorem rd_at (l : List Int) (i : Nat) (h : i < l.length) : rd l (i : Int) = l[i] := by simp [rd, List.getD, List.getElem?_eq_getElem h]
theorem sum_succ (k : Nat) (a : Int) (l : List Int) (m i : Int) : money_Sum.l0 (k + 1) a l m i = if i < m then (if 0 ≤ i then (if i < (l.length : Int) then ((money_Add.f k a (rd l i)).bind fun bt115 => (if bt115.2 = 0 then (money_Sum.l0 k bt115.1 l m (wrap64 (i + 1))) else (some (0, bt115.2)))) else (none)) else (none)) else (some (a, 0)) := by rw [money_Sum.l0]
theorem rsum_succ (k : Nat) (l : List Int) (a : Int) (i : Int) : fareboxref05_Sum.l0 (k + 1) l a i = if i < (l.length : Int) then (if 0 ≤ i then ((fareboxref05_Add.f k a (rd l i)).bind fun bt131 => (if bt131.2 = 0 then (fareboxref05_Sum.l0 k l bt131.1 (wrap64 (i + 1))) else (some (0, bt131.2)))) else (none)) else (some (a, 0)) := by rw [fareboxref05_Sum.l0]
theorem sum_l0 (l : List Int) (hl : l.length ≤ 281474976710656) : ∀ (m i : Nat) (a : Int), i + m = l.length → money_Sum.l0 (m + 4) a l l.length i = some (sumFrom a (l.drop i))
  | 0, i, a, h => by
    rw [sum_succ, if_neg (by omega), List.drop_of_length_le (by omega)]
    rfl
  | m + 1, i, a, h => by
    have hi : i < l.length := by omega
    have e3 : wrap64 ((i : Int) + 1) = ((i + 1 : Nat) : Int) := by rw [wrap_ok _ (by omega)]; rfl
    rw [show m + 1 + 4 = (m + 4) + 1 by omega, sum_succ, if_pos (by omega), if_pos (by omega), if_pos (by omega), rd_at l i hi, show m + 4 = (m + 1) + 3 by omega, add_f, e3, List.drop_eq_getElem_cons hi]
    show (if (addS a l[i]).2 = 0 then _ else _) = some (if (addS a l[i]).2 = 0 then _ else _)
    by_cases h0 : (addS a l[i]).2 = 0
    · rw [if_pos h0, if_pos h0, show m + 1 + 3 = m + 4 by omega]
      exact sum_l0 l hl m (i + 1) _ (by omega)
    · rw [if_neg h0, if_neg h0, add_err _ _ h0]
theorem rsum_l0 (l : List Int) (hl : l.length ≤ 281474976710656) : ∀ (m i : Nat) (a : Int), i + m = l.length → fareboxref05_Sum.l0 (m + 2) l a i = some (sumFrom a (l.drop i))
  | 0, i, a, h => by
    rw [rsum_succ, if_neg (by omega), List.drop_of_length_le (by omega)]
    rfl
  | m + 1, i, a, h => by
    have hi : i < l.length := by omega
    have e3 : wrap64 ((i : Int) + 1) = ((i + 1 : Nat) : Int) := by rw [wrap_ok _ (by omega)]; rfl
    rw [show m + 1 + 2 = (m + 2) + 1 by omega, rsum_succ, if_pos (by omega), if_pos (by omega), rd_at l i hi, show m + 2 = (m + 1) + 1 by omega, radd_f, e3, List.drop_eq_getElem_cons hi]
    show (if (addS a l[i]).2 = 0 then _ else _) = some (if (addS a l[i]).2 = 0 then _ else _)
    by_cases h0 : (addS a l[i]).2 = 0
    · rw [if_pos h0, if_pos h0]
      exact rsum_l0 l hl m (i + 1) _ (by omega)
    · rw [if_neg h0, if_neg h0, add_err _ _ h0]
theorem sum_f (l : List Int) (hl : l.length ≤ 281474976710656) : money_Sum.f (l.length + 4) l = some (sumFrom 0 l) := by
  have := sum_l0 l hl l.length 0 0 (by omega)
  rw [List.drop_zero] at this
  exact this
theorem rsum_f (l : List Int) (hl : l.length ≤ 281474976710656) : fareboxref05_Sum.f (l.length + 2) l = some (sumFrom 0 l) := by
  have := rsum_l0 l hl l.length 0 0 (by omega)
  rw [List.drop_zero] at this
  exact this

section
variable (z w : World) (h : Kept z w)
include h
theorem add_k (a b : Int) : Calls Tryd.prog 25 #[.int .i64 a, .int .i64 b] w fun e w' => e = .returned (.tuple #[.int .i64 (addS a b).1, .int .i64 (addS a b).2]) ∧ Kept z w' := (money_Add.calls 3 a b _ _ w (add_f 0 a b)).mono fun _ _ ⟨he, hd⟩ => ⟨he, h.then hd⟩
theorem sub_k (a b : Int) : Calls Tryd.prog 26 #[.int .i64 a, .int .i64 b] w fun e w' => e = .returned (.tuple #[.int .i64 (subS a b).1, .int .i64 (subS a b).2]) ∧ Kept z w' := (money_Sub.calls 3 a b _ _ w (sub_f 0 a b)).mono fun _ _ ⟨he, hd⟩ => ⟨he, h.then hd⟩
theorem radd_k (a b : Int) : Calls Tryd.prog 28 #[.int .i64 a, .int .i64 b] w fun e w' => e = .returned (.tuple #[.int .i64 (addS a b).1, .int .i64 (addS a b).2]) ∧ Kept z w' := (fareboxref05_Add.calls 1 a b _ _ w (radd_f 0 a b)).mono fun _ _ ⟨he, hd⟩ => ⟨he, h.drawn hd⟩
theorem rsub_k (a b : Int) : Calls Tryd.prog 29 #[.int .i64 a, .int .i64 b] w fun e w' => e = .returned (.tuple #[.int .i64 (subS a b).1, .int .i64 (subS a b).2]) ∧ Kept z w' := (fareboxref05_Sub.calls 1 a b _ _ w (rsub_f 0 a b)).mono fun _ _ ⟨he, hd⟩ => ⟨he, h.drawn hd⟩
theorem sum_k (A : Option Addr) (c : Nat) (l : List Int) (hr : Kd.C (Kd.int .i64) w A l.length l) (hc : l.length ≤ c) (hl : l.length ≤ 281474976710656) : Calls Tryd.prog 27 #[.slice A l.length c] w fun e w' => e = .returned (.tuple #[.int .i64 (sumFrom 0 l).1, .int .i64 (sumFrom 0 l).2]) ∧ Kept z w' := (money_Sum.calls _ A c l _ _ w hr hc (sum_f l hl)).mono fun _ _ ⟨he, hd⟩ => ⟨he, h.then hd⟩
theorem rsum_k (A : Option Addr) (c : Nat) (l : List Int) (hr : Kd.C (Kd.int .i64) w A l.length l) (hc : l.length ≤ c) (hl : l.length ≤ 281474976710656) : Calls Tryd.prog 30 #[.slice A l.length c] w fun e w' => e = .returned (.tuple #[.int .i64 (sumFrom 0 l).1, .int .i64 (sumFrom 0 l).2]) ∧ Kept z w' := (fareboxref05_Sum.calls _ A c l _ _ w hr hc (rsum_f l hl)).mono fun _ _ ⟨he, hd⟩ => ⟨he, h.drawn hd⟩
end
end Go.Proofs.YtdioaclegmalpaaDoor.Hand
