/- From what a row hands over (arguments as data, their weights) to what the printed contracts ask (slices that read as lists): for lists of texts, of structs, of lists. Plain theorems of this session. -/
import Derived.Test.YtdioaclegmalpaaDoorWWords
import Derived.Deep.Slices
import Derived.Deep.Fields
import Derived.SizedLaws
import Derived.ChangeArms
import Derived.Lib.SmallJoins
import Derived.Deep.Strs
namespace Go.Proofs.YtdioaclegmalpaaDoor.RowAid
open Go.RowKit Go.WideShapes Go.ChangeShapes Go.Deep Go.Proofs.YtdioaclegmalpaaDoorW.PrintWords

section
variable {H : Type} {enc : TypeId × Value → H} {P : Program} {w : World} {sp : Nat → Bool} {held : Bool}

/-- Each weight of a datum is within the form's reach. -/
def Fits (P : Program) (t : TypeId) (d : DataW H) : Prop := ∀ q ∈ d.weights P t, q ≤ reachBytes
theorem fits_param {ts : List TypeId} {ds : List (DataW H)} (h : (DataW.weightsEach P ts ds).all (· ≤ reachBytes) = true) {j : Nat} {t : TypeId} {d : DataW H} (ht : ts[j]? = some t) (hd : ds[j]? = some d) : Fits P t d := fun q hq => by
  have := List.all_eq_true.1 h q (DataW.weights_mem_each ht hd q hq)
  simpa using this
theorem fits_field {t : TypeId} {fs : Array Field} {parts : List (DataW H)} (hs : P.underlying t = some (.struct fs)) (h : Fits P t (.agg parts)) {j : Nat} {f : Field} {d : DataW H} (hf : fs[j]? = some f) (hd : parts[j]? = some d) : Fits P f.type d := fun q hq => by
  refine h q ?_
  simp only [DataW.weights, hs]
  exact DataW.weights_mem_each (j := j) (by simp [hf]) hd q hq
theorem weights_mem_all {e : TypeId} : ∀ {l : List (DataW H)} {d : DataW H}, d ∈ l → ∀ q ∈ d.weights P e, q ∈ DataW.weightsAll P e l
  | x :: l, d, hd, q, hq => by
    simp only [DataW.weightsAll, List.mem_append]
    rcases List.mem_cons.1 hd with rfl | hd
    · exact .inl hq
    · exact .inr (weights_mem_all hd q hq)
theorem fits_slice {t e : TypeId} {elems spare : List (DataW H)} (hu : P.underlying t = some (.slice e)) (h : Fits P t (.slice elems spare)) : (elems.length + spare.length) * P.bytesOf e ≤ reachBytes ∧ ∀ d ∈ elems, Fits P e d := by
  unfold Fits at h
  simp only [DataW.weights, hu, List.mem_cons, List.mem_append] at h
  exact ⟨h _ (.inl rfl), fun d hd q hq => h q (.inr (.inl (weights_mem_all hd q hq)))⟩
theorem fits_string {t : TypeId} {b : List UInt8} (h : Fits (H := H) P t (.lit (.string b))) : b.length ≤ reachBytes := h _ (by simp [DataW.weights])

theorem wf64 {n : Int} (h : (Lit.int .i64 n).wf = true) : -9223372036854775808 ≤ n ∧ n ≤ 9223372036854775807 := by
  have : IntKind.min .i64 ≤ n ∧ n ≤ IntKind.max .i64 := by simpa [Lit.wf] using h
  exact this
theorem add_of_add (a : Addr) (i j : Nat) : (a.add i).add j = a.add (i + j) := by
  unfold Addr.add
  by_cases hi : i = 0 <;> by_cases hj : j = 0 <;> simp [hi, hj, Nat.add_assoc]

/-- How an element's cells read: as a value of the kind d, of which G holds. -/
def Elem (enc : TypeId × Value → H) (P : Program) (w : World) (sp : Nat → Bool) (held : Bool) (e : TypeId) {α : Type} (d : Kd α) (G : α → Prop) : Prop :=
  ∀ (fuel : Nat) (cs : List Value) (y : DataW H × List MemPlace), DataW.trod enc P w 0 sp held fuel e cs = some y → Fits P e y.1 → ∃ x : α, d.K w x cs ∧ G x

theorem elem_string {e : TypeId} (he : P.underlying e = some .string) : Elem enc P w sp held e Kd.string (fun s => s.size ≤ reachBytes) := fun fuel cs y h hf => by
  obtain ⟨s, rfl, rfl, hs⟩ := DataW.trod_string he h
  refine ⟨s, rfl, ?_⟩
  have := fits_string hf
  rw [Array.length_toList] at this
  exact this
theorem elem_int {e : TypeId} {k : IntKind} (he : P.underlying e = some (.int k)) : Elem enc P w sp held e (Kd.int k) (fun n => (Lit.int k n).wf = true) := fun fuel cs y h _ => by
  obtain ⟨n, rfl, rfl, hs⟩ := DataW.trod_int he h
  exact ⟨n, rfl, hs⟩
theorem elem_bool {e : TypeId} (he : P.underlying e = some .bool) : Elem enc P w sp held e Kd.bool (fun _ => True) := fun fuel cs y h _ => by
  obtain ⟨n, rfl, rfl⟩ := DataW.trod_bool he h
  exact ⟨n, rfl, trivial⟩

theorem listed {α : Type} {Q : Nat → α → Prop} : ∀ {n : Nat}, (∀ i, i < n → ∃ y, Q i y) → ∃ l : List α, l.length = n ∧ ∀ i p, l[i]? = some p → Q i p
  | 0, _ => ⟨[], rfl, fun i p h => by simp at h⟩
  | n + 1, h => by
    obtain ⟨l, hl, hq⟩ := listed (n := n) (fun i hi => h i (by omega))
    obtain ⟨y, hy⟩ := h n (by omega)
    refine ⟨l ++ [y], by simp [hl], fun i p hp => ?_⟩
    by_cases hi : i < n
    · exact hq i p (by rwa [List.getElem?_append_left (by omega)] at hp)
    · rw [List.getElem?_append_right (by omega)] at hp
      have hi2 : i = n := by
        have := (List.getElem?_eq_some_iff.1 hp).1
        simp at this
        omega
      subst hi2
      rw [hl] at hp
      simp at hp
      exact hp ▸ hy

/-- A slice reads as a list, no longer than its weight allows, each element good. -/
theorem slice_reads {α : Type} {d : Kd α} {G : α → Prop} {t e : TypeId} (ht : P.underlying t = some (.slice e)) (hC : P.cellsOf e = d.sz) (hE : Elem enc P w sp held e d G) {fuel : Nat} {cs : List Value} {x : DataW H × List MemPlace}
    (h : DataW.trod enc P w 0 sp held fuel t cs = some x) (hf : Fits P t x.1) :
    ∃ (A : Option Addr) (c : Nat) (l : List α), cs = [.slice A l.length c] ∧ l.length ≤ c ∧ d.C w A l.length l ∧ l.length * P.bytesOf e ≤ reachBytes ∧ (∀ y ∈ l, G y) := by
  rcases open_slice ht h with ⟨rfl, rfl⟩ | ⟨a, len, cap, m, n, D, Pl, rfl, _, hl, hm, hmm, rfl, hi⟩
  · exact ⟨none, 0, [], rfl, Nat.le_refl _, Kd.C_nil d w, by simp, fun _ hx => by cases hx⟩
  · obtain ⟨hw1, hw2⟩ := fits_slice ht hf
    have hlm : len ≤ m := by rw [hmm]; split <;> omega
    have hex : ∀ i, i < len → ∃ y : α, G y ∧ ∃ c : List Value, c.length = d.sz ∧ d.K w y c ∧ ∀ j u, c[j]? = some u → w.cell? (a.add (i * d.sz + j)) = some u := fun i hil => by
      obtain ⟨cs', hcs, htr⟩ := hi i (by omega)
      rw [hC] at hcs
      obtain ⟨_, hcl, hat⟩ := World.cells?_some hcs
      obtain ⟨y, hK, hG⟩ := hE n cs' _ htr (hw2 (D i) (List.mem_map.2 ⟨i, List.mem_range.2 hil, rfl⟩))
      refine ⟨y, hG, cs', hcl, hK, fun j u hu => ?_⟩
      have hj : j < d.sz := by
        have := (List.getElem?_eq_some_iff.1 hu).1
        omega
      rw [← add_of_add, hat j hj, hu]
    obtain ⟨l, hll, hq⟩ := listed hex
    subst hll
    refine ⟨some a, cap, l, rfl, hl, ⟨rfl, Nat.le_trans hl (Nat.le_trans hm (by decide)), fun _ => ⟨a, rfl, fun j p hp => (hq j p hp).2⟩⟩, ?_, fun y hy => ?_⟩
    · have : (l.length + (m - l.length)) * P.bytesOf e ≤ reachBytes := by simpa using hw1
      exact Nat.le_trans (Nat.mul_le_mul_right _ (by omega)) this
    · obtain ⟨i, hi1, rfl⟩ := List.mem_iff_getElem.1 hy
      exact (hq i _ (List.getElem?_eq_getElem hi1)).1

/-- A slice of a good length whose elements are all good. -/
def GoodS (P : Program) (e : TypeId) {α : Type} (G : α → Prop) (l : List α) : Prop := l.length * P.bytesOf e ≤ reachBytes ∧ ∀ y ∈ l, G y

theorem elem_slice {α : Type} {d : Kd α} {G : α → Prop} {t e : TypeId} (ht : P.underlying t = some (.slice e)) (hC : P.cellsOf e = d.sz) (hE : Elem enc P w sp held e d G) :
    Elem enc P w sp held t (Kd.slice e d) (GoodS P e G) := fun fuel cs y h hf => by
  obtain ⟨A, c, l, rfl, hc, hr, hb, hg⟩ := slice_reads ht hC hE h hf
  exact ⟨l, ⟨A, c, rfl, hc, hr⟩, hb, hg⟩

/-- A struct of two one-cell fields. -/
theorem elem_two {α β : Type} {a : Kd α} {b : Kd β} {G0 : α → Prop} {G1 : β → Prop} {t : TypeId} {f0 f1 : Field} (ht : P.underlying t = some (.struct #[f0, f1])) (hone : oneCellFields P #[f0, f1] = true) (hc : P.cellsOf t = 2)
    (h0 : Elem enc P w sp held f0.type a G0) (h1 : Elem enc P w sp held f1.type b G1) : Elem enc P w sp held t (Kd.pair a b) (fun x => G0 x.1 ∧ G1 x.2) := fun fuel cs y h hf => by
  obtain ⟨y0, y1, n, rfl, hl, k0, k1⟩ := trod_struct2 ht h
  obtain ⟨o0, z0⟩ := hone_of hone 0 f0 rfl
  obtain ⟨o1, z1⟩ := hone_of hone 1 f1 rfl
  rw [hc] at hl
  match cs, hl with
  | [c0, c1], _ =>
    rw [o0, z0] at k0
    rw [o1, z1] at k1
    obtain ⟨x0, hk0, hg0⟩ := h0 n [c0] y0 k0 (fits_field ht hf (j := 0) rfl rfl)
    obtain ⟨x1, hk1, hg1⟩ := h1 n [c1] y1 k1 (fits_field ht hf (j := 1) rfl rfl)
    exact ⟨(x0, x1), ⟨[c0], [c1], rfl, hk0, hk1⟩, hg0, hg1⟩
theorem elem_three {α β γ : Type} {a : Kd α} {b : Kd β} {c : Kd γ} {G0 : α → Prop} {G1 : β → Prop} {G2 : γ → Prop} {t : TypeId} {f0 f1 f2 : Field} (ht : P.underlying t = some (.struct #[f0, f1, f2])) (hone : oneCellFields P #[f0, f1, f2] = true) (hc : P.cellsOf t = 3)
    (h0 : Elem enc P w sp held f0.type a G0) (h1 : Elem enc P w sp held f1.type b G1) (h2 : Elem enc P w sp held f2.type c G2) : Elem enc P w sp held t (Kd.pair a (Kd.pair b c)) (fun x => G0 x.1 ∧ G1 x.2.1 ∧ G2 x.2.2) := fun fuel cs y h hf => by
  obtain ⟨y0, y1, y2, n, rfl, hl, k0, k1, k2⟩ := trod_struct3 ht h
  obtain ⟨o0, z0⟩ := hone_of hone 0 f0 rfl
  obtain ⟨o1, z1⟩ := hone_of hone 1 f1 rfl
  obtain ⟨o2, z2⟩ := hone_of hone 2 f2 rfl
  rw [hc] at hl
  match cs, hl with
  | [c0, c1, c2], _ =>
    rw [o0, z0] at k0
    rw [o1, z1] at k1
    rw [o2, z2] at k2
    obtain ⟨x0, hk0, hg0⟩ := h0 n [c0] y0 k0 (fits_field ht hf (j := 0) rfl rfl)
    obtain ⟨x1, hk1, hg1⟩ := h1 n [c1] y1 k1 (fits_field ht hf (j := 1) rfl rfl)
    obtain ⟨x2, hk2, hg2⟩ := h2 n [c2] y2 k2 (fits_field ht hf (j := 2) rfl rfl)
    exact ⟨(x0, x1, x2), ⟨[c0], [c1] ++ [c2], rfl, hk0, ⟨[c1], [c2], rfl, hk1, hk2⟩⟩, hg0, hg1, hg2⟩
end
end Go.Proofs.YtdioaclegmalpaaDoor.RowAid
