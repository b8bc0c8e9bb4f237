/- A book as a plain list of accounts in the order of their tokens: what stands at a token, what a store makes of it; and how the map's datum says the same. -/
import Derived.Test.YtbfpggghcdfghaaProg
import Derived.Maps.OwnSet
import Derived.Sort.KeysCollected
import Derived.WideAt
namespace Go.Proofs.Ytbfpggghcdfghaa.PA
open Go.Maps Go.WideShapes Go.ChangeMaps

abbrev Acct := ByteArray × Int × Int
def toL (s : ByteArray) : List UInt8 := s.data.toList
theorem toL_inj {s t : ByteArray} (h : toL s = toL t) : s = t := by
  cases s; cases t
  simp [toL] at h
  rw [h]
theorem toL_eq (s : ByteArray) : s.toList = toL s := ByteArray.toList_eq s
def kl (s : ByteArray) : Lit := .string (toL s)
theorem kl_inj {s t : ByteArray} (h : kl s = kl t) : s = t := by
  unfold kl at h
  injection h with h
  exact toL_inj h
def sumsD (a b : Int) : DataW Unit := .agg [.lit (.int .i64 a), .lit (.int .i64 b)]
theorem sumsD_inj {a b c d : Int} (h : sumsD a b = sumsD c d) : a = c ∧ b = d := by
  unfold sumsD at h
  simp at h
  exact h
def ent (x : Acct) : Lit × DataW Unit := (kl x.1, sumsD x.2.1 x.2.2)
def dat (m : List Acct) : DataW Unit := .map (m.map ent)
/-- How a value of the map reads. -/
def sumsElem : Value → Option (DataW Unit × List MemPlace)
  | .agg cs => match cs.toList with
    | [.int .i64 a, .int .i64 b] => some (sumsD a b, [])
    | _ => none
  | _ => none
theorem sumsElem_mk (a b : Int) : sumsElem (.agg #[.int .i64 a, .int .i64 b]) = some (sumsD a b, []) := rfl
theorem sumsElem_inv {v : Value} {z : DataW Unit × List MemPlace} (h : sumsElem v = some z) : ∃ a b, v = .agg #[.int .i64 a, .int .i64 b] ∧ z = (sumsD a b, []) := by
  unfold sumsElem at h
  split at h
  · rename_i cs
    split at h
    · rename_i a b e
      injection h with h
      have e1 : cs = #[.int .i64 a, .int .i64 b] := by
        apply Array.toList_inj.1
        rw [e]
      exact ⟨a, b, by rw [e1], h.symm⟩
    · cases h
  · cases h

/-! ### what stands at a token -/
def getS : List Acct → ByteArray → Option (Int × Int)
  | [], _ => none
  | x :: r, t => if x.1 = t then some x.2 else getS r t
def isS (m : List Acct) (t : ByteArray) : Bool := (getS m t).isSome
def chS (m : List Acct) (t : ByteArray) : Int := ((getS m t).getD (0, 0)).1
def paS (m : List Acct) (t : ByteArray) : Int := ((getS m t).getD (0, 0)).2
def insS (x : Acct) : List Acct → List Acct
  | [] => [x]
  | y :: r => if bytesBefore (toL x.1) (toL y.1) then x :: y :: r else y :: insS x r
def delS (m : List Acct) (t : ByteArray) : List Acct := m.filter (fun x => decide (x.1 ≠ t))
def putS (m : List Acct) (t : ByteArray) (c p : Int) : List Acct := insS (t, c, p) (delS m t)

theorem same_kl (s t : ByteArray) : (kl s).sameKey (kl t) = decide (s = t) := by
  unfold kl
  show (toL s == toL t) = _
  by_cases h : s = t
  · subst h; simp
  · have : ¬ toL s = toL t := fun e => h (toL_inj e)
    simp [h, this]
theorem at_dat (m : List Acct) (t : ByteArray) (z : DataW Unit) : (dat m).atKey (kl t) z = match getS m t with | some (c, p) => sumsD c p | none => z := by
  induction m with
  | nil => rfl
  | cons x r ih =>
    unfold dat at ih ⊢
    simp only [DataW.atKey, List.map_cons, List.find?_cons, ent, same_kl, getS] at ih ⊢
    by_cases h : x.1 = t
    · simp [h]
    · simp only [h, decide_false, if_false]
      exact ih
theorem has_dat (m : List Acct) (t : ByteArray) : has (dat m) (kl t) = isS m t := by
  induction m with
  | nil => rfl
  | cons x r ih =>
    unfold dat isS at ih ⊢
    simp only [has, List.map_cons, List.any_cons, ent, same_kl, getS] at ih ⊢
    by_cases h : x.1 = t
    · simp [h]
    · simp only [h, decide_false, if_false, Bool.false_or]
      exact ih
theorem size_dat (m : List Acct) : Maps.size (dat m) = m.length := by simp [dat, Maps.size]
theorem insert_dat (x : Acct) (m : List Acct) : DataW.insert (ent x) (m.map ent) = (insS x m).map ent := by
  induction m with
  | nil => rfl
  | cons y r ih =>
    simp only [List.map_cons, DataW.insert, insS]
    show (if bytesBefore (toL x.1) (toL y.1) = true then _ else _) = _
    split
    · rfl
    · rw [ih]; rfl
theorem put_dat (m : List Acct) (t : ByteArray) (c p : Int) : (dat m).put (kl t) (sumsD c p) = dat (putS m t c p) := by
  unfold dat putS delS
  rw [DataW.put_eq]
  unfold putKey
  rw [← insert_dat]
  congr 1
  have : ∀ l : List Acct, (l.map ent).filter (notKey (kl t)) = (l.filter (fun x => decide (x.1 ≠ t))).map ent := by
    intro l
    rw [List.filter_map]
    congr 1
    apply List.filter_congr
    intro x _
    show (!(kl x.1).sameKey (kl t)) = _
    rw [same_kl]
    simp
  rw [this]
  rfl

/-! ### what a store makes of it -/
theorem get_ins (x : Acct) (m : List Acct) (t : ByteArray) (h : ∀ y ∈ m, y.1 ≠ x.1) : getS (insS x m) t = if x.1 = t then some x.2 else getS m t := by
  induction m with
  | nil => rfl
  | cons y r ih =>
    unfold insS
    split
    · rfl
    · simp only [getS]
      rw [ih (fun z hz => h z (List.mem_cons_of_mem _ hz))]
      have hy := h y (List.mem_cons_self ..)
      by_cases h1 : y.1 = t
      · have : ¬ x.1 = t := fun e => hy (h1.trans e.symm)
        simp [h1, this]
      · simp [h1]
theorem get_del (m : List Acct) (s t : ByteArray) (h : s ≠ t) : getS (delS m s) t = getS m t := by
  unfold delS
  induction m with
  | nil => rfl
  | cons y r ih =>
    by_cases h1 : y.1 = s
    · have h2 : ¬ y.1 = t := fun e => h (h1.symm.trans e)
      simp only [List.filter_cons, ne_eq, h1, not_true_eq_false, decide_false, getS]
      rw [if_neg (by simp)]
      rw [h1] at h2
      rw [if_neg h2]
      exact ih
    · simp only [List.filter_cons, ne_eq, h1, not_false_eq_true, decide_true, getS, if_true]
      rw [ih]
theorem del_ne (m : List Acct) (s : ByteArray) : ∀ y ∈ delS m s, y.1 ≠ s := by
  intro y hy
  have := (List.mem_filter.1 hy).2
  simpa using this
theorem get_put_same (m : List Acct) (t : ByteArray) (c p : Int) : getS (putS m t c p) t = some (c, p) := by
  unfold putS
  rw [get_ins _ _ _ (del_ne m t), if_pos rfl]
theorem get_put_other (m : List Acct) {s t : ByteArray} (c p : Int) (h : s ≠ t) : getS (putS m s c p) t = getS m t := by
  unfold putS
  rw [get_ins _ _ _ (del_ne m s), if_neg h, get_del m s t h]

/-! ### the order -/
def lt (a b : ByteArray) : Prop := bytesBefore (toL a) (toL b) = true
instance (a b : ByteArray) : Decidable (lt a b) := inferInstanceAs (Decidable (_ = true))
theorem lt_irrefl (a : ByteArray) : ¬ lt a a := by
  unfold lt
  rw [WideAt.bytes_irrefl]
  simp
theorem lt_trans {a b c : ByteArray} (h : lt a b) (k : lt b c) : lt a c := bytes_trans _ _ _ h k
theorem lt_total {a b : ByteArray} (h : a ≠ b) : lt a b ∨ lt b a := WideAt.bytes_total _ _ (fun e => h (toL_inj e))
theorem lt_ne {a b : ByteArray} (h : lt a b) : a ≠ b := fun e => lt_irrefl b (e ▸ h)
theorem lt_asymm {a b : ByteArray} (h : lt a b) : ¬ lt b a := fun k => lt_irrefl a (lt_trans h k)
def Rise (m : List Acct) : Prop := m.Pairwise (fun x y => lt x.1 y.1)
theorem mem_ins (x y : Acct) (m : List Acct) : y ∈ insS x m ↔ y = x ∨ y ∈ m := by
  induction m with
  | nil => simp [insS]
  | cons z r ih =>
    unfold insS
    split
    · simp
    · simp [ih]
      constructor
      · rintro (h | h | h) <;> simp [h]
      · rintro (h | h | h) <;> simp [h]
theorem rise_ins {x : Acct} : ∀ {m : List Acct}, Rise m → (∀ y ∈ m, y.1 ≠ x.1) → Rise (insS x m)
  | [], _, _ => by simp [insS, Rise]
  | y :: r, h, hne => by
    obtain ⟨h1, h2⟩ := List.pairwise_cons.1 h
    unfold insS
    split
    · rename_i hb
      refine List.pairwise_cons.2 ⟨fun z hz => ?_, h⟩
      rcases List.mem_cons.1 hz with rfl | hz
      · exact hb
      · exact lt_trans hb (h1 z hz)
    · rename_i hb
      have hyx : lt y.1 x.1 := by
        rcases lt_total (hne y (List.mem_cons_self ..)) with h' | h'
        · exact h'
        · exact absurd h' hb
      refine List.pairwise_cons.2 ⟨fun z hz => ?_, rise_ins h2 (fun z hz => hne z (List.mem_cons_of_mem _ hz))⟩
      rcases (mem_ins _ _ _).1 hz with rfl | hz
      · exact hyx
      · exact h1 z hz
theorem rise_del {m : List Acct} (h : Rise m) (t : ByteArray) : Rise (delS m t) := h.filter _
theorem rise_put {m : List Acct} (h : Rise m) (t : ByteArray) (c p : Int) : Rise (putS m t c p) := rise_ins (rise_del h t) (del_ne m t)
theorem rise_nil : Rise [] := List.Pairwise.nil
theorem mem_put {m : List Acct} {t : ByteArray} {c p : Int} {y : Acct} (h : y ∈ putS m t c p) : y = (t, c, p) ∨ y ∈ m := by
  rcases (mem_ins _ _ _).1 h with h | h
  · exact .inl h
  · exact .inr (List.mem_filter.1 h).1
theorem len_ins (x : Acct) (m : List Acct) : (insS x m).length = m.length + 1 := by
  induction m with
  | nil => rfl
  | cons y r ih =>
    unfold insS
    split
    · rfl
    · simp [ih]
theorem len_del : ∀ {m : List Acct}, Rise m → ∀ t, (delS m t).length + (if isS m t then 1 else 0) = m.length
  | [], _, _ => rfl
  | y :: r, h, t => by
    obtain ⟨h1, h2⟩ := List.pairwise_cons.1 h
    have ih := len_del h2 t
    by_cases e : y.1 = t
    · have h3 : getS r t = none := by
        have : ∀ l : List Acct, (∀ z ∈ l, lt y.1 z.1) → getS l t = none := by
          intro l
          induction l with
          | nil => intro _; rfl
          | cons z l ih =>
            intro hz
            unfold getS
            rw [if_neg (fun e1 => lt_ne (hz z (List.mem_cons_self ..)) (e.trans e1.symm))]
            exact ih (fun z' hz' => hz z' (List.mem_cons_of_mem _ hz'))
        exact this r h1
      unfold delS isS at ih ⊢
      rw [h3] at ih
      simp only [Option.isSome_none, Bool.false_eq_true, if_false] at ih
      simp only [List.filter_cons, ne_eq, e, not_true_eq_false, decide_false, getS, if_true, Option.isSome_some, Bool.false_eq_true, if_false]
      simp at ih ⊢
      exact ih
    · unfold delS isS at ih ⊢
      simp only [List.filter_cons, ne_eq, e, not_false_eq_true, decide_true, getS, if_true, if_false, List.length_cons]
      simp at ih ⊢
      omega
theorem len_put {m : List Acct} (h : Rise m) (t : ByteArray) (c p : Int) : (putS m t c p).length = if isS m t then m.length else m.length + 1 := by
  have := len_del h t
  unfold putS
  rw [len_ins]
  split <;> rename_i hi <;> simp [hi] at this <;> omega
/-- Two books in order that say the same of each token are one. -/
theorem rise_get_mem {m : List Acct} (h : Rise m) {t : ByteArray} {c p : Int} : getS m t = some (c, p) ↔ (t, c, p) ∈ m := by
  induction m with
  | nil => simp [getS]
  | cons y r ih =>
    obtain ⟨h1, h2⟩ := List.pairwise_cons.1 h
    unfold getS
    by_cases e : y.1 = t
    · rw [if_pos e]
      constructor
      · intro hh
        injection hh with hh
        rw [← hh, ← e]
        simp
      · intro hh
        rcases List.mem_cons.1 hh with hh | hh
        · rw [← hh]
        · exact absurd e (lt_ne (h1 _ hh))
    · rw [if_neg e, ih h2]
      constructor
      · exact fun hh => List.mem_cons_of_mem _ hh
      · intro hh
        rcases List.mem_cons.1 hh with hh | hh
        · rw [← hh] at e
          exact absurd rfl e
        · exact hh
theorem rise_ext {m n : List Acct} (hm : Rise m) (hn : Rise n) (h : ∀ t, getS m t = getS n t) : m = n := by
  have hmem : ∀ y : Acct, y ∈ m ↔ y ∈ n := fun y => by
    have e : y = (y.1, y.2.1, y.2.2) := rfl
    rw [e, ← rise_get_mem hm, ← rise_get_mem hn, h]
  have nd : ∀ {l : List Acct}, Rise l → l.Nodup := fun hl => hl.imp (fun hab e => lt_ne hab (congrArg Prod.fst e))
  have hp : m.Perm n := (List.perm_ext_iff_of_nodup (nd hm) (nd hn)).2 hmem
  exact hp.eq_of_pairwise (fun a b _ _ hab hba => absurd hba (lt_asymm hab)) hm hn

/-! ### what the calls answer -/
/-- An account that may be: a token of eight bytes; what was paid is no more than what was charged. -/
def Ok (x : Acct) : Prop := x.1.size = 8 ∧ 0 ≤ x.2.2 ∧ x.2.2 ≤ x.2.1 ∧ x.2.1 ≤ 9007199254740992
structure Fine (m : List Acct) : Prop where
  rise : Rise m
  ok : ∀ x ∈ m, Ok x
  few : m.length ≤ 1000
theorem fine_nil : Fine [] := ⟨rise_nil, fun _ h => absurd h (List.not_mem_nil), Nat.zero_le _⟩
theorem get_mem {m : List Acct} {t : ByteArray} {x : Int × Int} (h : getS m t = some x) : (t, x) ∈ m := by
  induction m with
  | nil => cases h
  | cons y r ih =>
    unfold getS at h
    split at h
    · rename_i e
      injection h with h
      rw [← h, ← e]
      simp
    · exact List.mem_cons_of_mem _ (ih h)
theorem Fine.at {m : List Acct} (h : Fine m) (t : ByteArray) : 0 ≤ paS m t ∧ paS m t ≤ chS m t ∧ chS m t ≤ 9007199254740992 := by
  unfold paS chS
  cases e : getS m t with
  | none => simp
  | some x =>
    have := h.ok _ (get_mem e)
    exact ⟨this.2.1, this.2.2.1, this.2.2.2⟩
def setS (m : List Acct) (t : ByteArray) (c : Int) : Int × Int × Int × List Acct :=
  if t.size ≠ 8 ∨ c < 0 ∨ 9007199254740992 < c then (0, 0, 220, m)
  else if isS m t = false ∧ 1000 ≤ m.length then (0, 0, 2, m)
  else (c - chS m t, paS m t - min (paS m t) c, 0, putS m t c (min (paS m t) c))
def payS (m : List Acct) (t : ByteArray) (n : Int) : Int × List Acct :=
  if isS m t = false ∨ n < 1 ∨ chS m t - paS m t < n then (220, m)
  else (0, putS m t (chS m t) (paS m t + n))
theorem is_size {m : List Acct} (h : Fine m) {t : ByteArray} (hi : isS m t = true) : t.size = 8 := by
  unfold isS at hi
  cases e : getS m t with
  | none => rw [e] at hi; cases hi
  | some x => exact (h.ok _ (get_mem e)).1
theorem fine_put {m : List Acct} (h : Fine m) {t : ByteArray} {c p : Int} (hx : Ok (t, c, p)) (hl : isS m t = true ∨ m.length < 1000) : Fine (putS m t c p) := by
  refine ⟨rise_put h.rise _ _ _, fun y hy => ?_, ?_⟩
  · rcases mem_put hy with rfl | hy
    · exact hx
    · exact h.ok y hy
  · rw [len_put h.rise]
    have := h.few
    split
    · exact this
    · rcases hl with hl | hl
      · contradiction
      · omega
theorem fine_set {m : List Acct} (h : Fine m) (t : ByteArray) (c : Int) : Fine (setS m t c).2.2.2 := by
  unfold setS
  have ha := h.at t
  split
  · exact h
  · split
    · exact h
    · rename_i h1 h2
      refine fine_put h ⟨?_, ?_, ?_, ?_⟩ ?_
      · show t.size = 8
        omega
      · show 0 ≤ min (paS m t) c
        omega
      · show min (paS m t) c ≤ c
        omega
      · show c ≤ 9007199254740992
        omega
      · by_cases hi : isS m t = true
        · exact .inl hi
        · simp at hi
          right
          simp [hi] at h2
          omega
theorem fine_pay {m : List Acct} (h : Fine m) (t : ByteArray) (n : Int) : Fine (payS m t n).2 := by
  unfold payS
  have ha := h.at t
  split
  · exact h
  · rename_i h1
    have hi : isS m t = true := by
      cases e : isS m t
      · simp [e] at h1
      · rfl
    refine fine_put h ⟨is_size h hi, ?_, ?_, ha.2.2⟩ (.inl hi)
    · show 0 ≤ paS m t + n
      omega
    · show paS m t + n ≤ chS m t
      omega
end Go.Proofs.Ytbfpggghcdfghaa.PA
