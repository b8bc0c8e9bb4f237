/- risk.plus: what is in one of two lists, sorted, each thing once: the walk over slices.Concat, slices.Sort (the shelf's contract), slices.Compact (the shelf's contract) and slices.Clip. -/
import Derived.Test.YtodonkgheffibaaHand2
import Derived.Test.YtodonkgheffibaaShelf
import Derived.Test.YtodonkgheffibaaWMore
namespace Go.Proofs.Ytodonkgheffibaa.Hand
open Go.RowKit Go.Sort Go.Proofs.YtodonkgheffibaaW.PrintWords Go.Proofs.YtodonkgheffibaaW.PrintLast Go.Proofs.YtodonkgheffibaaW.PrintMore

def toL (s : ByteArray) : List UInt8 := s.data.toList
def ofL (l : List UInt8) : ByteArray := ⟨l.toArray⟩
theorem enc_toL (s : ByteArray) : encStr (toL s) = .string s := by simp [encStr, toL]
theorem enc_ofL (l : List UInt8) : encStr l = .string (ofL l) := rfl
def sortL (l : List ByteArray) : List (List UInt8) := (l.map toL).mergeSort (fun x y => decide (x ≤ y))
def plusS (l : List ByteArray) : List ByteArray := (Lib.compact (sortL l)).map ofL
/-- What plus answers. -/
def plusL (a b : List ByteArray) : List ByteArray := plusS (a ++ b)

theorem sortL_len (l : List ByteArray) : (sortL l).length = l.length := by simp [sortL]

theorem holds_of_own {w : World} {base g cap : Nat} {l : List ByteArray} (h : w.ownsRow base 9 1 (.slice (some ⟨g, 0, none⟩) l.length cap) l.length (strsV l)) : Holds encStr w g 0 (l.map toL).toArray ∧ g < w.heap.size ∧ base ≤ g ∧ l.length ≤ cap := by
  have hlt : g < w.heap.size := own_lt h g (by simp [Value.ownBlock])
  have hb : base ≤ g := own_base h g (by simp [Value.ownBlock])
  refine ⟨fun j hj => ?_, hlt, hb, ?_⟩
  · have hj' : j < l.length := by simpa using hj
    have hc := h.cells (g := g) rfl j (.string l[j]) (by simp [strsV, hj'])
    have hf : w.frozen? ⟨g, j, none⟩ = false := by
      obtain ⟨cells, hc2⟩ := own_typed h g (by simp [Value.ownBlock])
      simp [World.frozen?, hc2]
    rw [Nat.zero_add]
    refine ⟨?_, hf⟩
    rw [add_plain] at hc
    rw [hc]
    simp [hj', enc_toL]
  · rcases h.2 with ⟨h1, _⟩ | ⟨g', cap', cur, h1, _, _, h2, _⟩
    · cases h1
    · injection h1 with _ _ h3
      omega

theorem below_put {α : Type} [Inhabited α] (enc : α → Value) (w : World) (n g off : Nat) (d : Array α) (os : Array Obj) {B : Nat} (hB : B ≤ g) (hw : B ≤ w.heap.size) : RowKit.Below B w (grow (putRow enc (Sort.ahead w n) g off d) os) := by
  refine ⟨rfl, rfl, rfl, by simp [grow, putRow, mapBlock, Sort.ahead], fun i hi => ?_⟩
  have h1 : i < (putRow enc (Sort.ahead w n) g off d).heap.size := by simp [putRow, mapBlock, Sort.ahead]; omega
  rw [heap_grow_old _ _ h1]
  simp only [putRow, mapBlock, Sort.ahead, Array.getElem?_modify]
  rw [if_neg (by omega)]

theorem holds_put {α : Type} [Inhabited α] (enc : α → Value) (w : World) (n g : Nat) (d d' : Array α) (os : Array Obj) (hH : Holds enc w g 0 d) (hg : g < w.heap.size) (hs : d'.size = d.size) : Holds enc (grow (putRow enc (Sort.ahead w n) g 0 d') os) g 0 d' :=
  holds_grow _ _ _ _ _ _ (by simpa [putRow, mapBlock, Sort.ahead] using hg) (holds_putRow enc _ g 0 d d' (holds_ahead _ _ _ _ _ _ hH) hs)

theorem compact_head (d : List (List UInt8)) (n : Nat) : ∀ j, j < (Lib.compact d).length → j < (Lib.compact d ++ List.replicate n []).toArray.size ∧ (Lib.compact d ++ List.replicate n []).toArray[j]! = (Lib.compact d)[j]! := by
  intro j hj
  refine ⟨by simp; omega, ?_⟩
  simp [List.getElem!_eq_getElem?_getD, List.getElem?_append, hj]
theorem compact_le (d : List (List UInt8)) : (Lib.compact d).length ≤ d.length := by
  unfold Lib.compact Lib.compactUpTo
  rw [List.length_map]
  exact Nat.le_trans (List.length_filter_le _ _) (by simp)

/-- A row that is read, all of it the row's own length, and whose cells may be written. -/
def VW {α : Type} (d : Kd α) (_e : Nat) (W : World) (_base : Nat) (ok : Nat → Prop) (v : Value) (xs : List α) : Prop :=
  ∃ A, v = .slice A xs.length xs.length ∧ (∀ ad, A = some ad → 0 < xs.length → ok ad.block) ∧ Foot (fun W => d.C W A xs.length xs ∧ ∀ ad, A = some ad → ∀ j, j < xs.length → W.frozen? (ad.add j) = false) W ok
section
variable {α : Type} {d : Kd α} {e base base' : Nat} {ok ok' : Nat → Prop} {W w1 : World} {u v : Value} {xs : List α}
theorem VW_V (h : VW d e W base ok v xs) : Kd.V d e W base ok v xs := by
  obtain ⟨A, hv, _, hf⟩ := h
  exact ⟨A, xs.length, hv, Nat.le_refl _, hf.imp fun _ k => k.1⟩
theorem VW_reads' {A : Option Addr} {n c : Nat} (h : VW d e W base ok (.slice A n c) xs) : n = xs.length ∧ n ≤ c ∧ d.C W A xs.length xs := Kd.V_reads' (VW_V h)
theorem VW_slice (h : VW d e W base ok v xs) : ∃ A c, v = .slice A xs.length c := by
  obtain ⟨A, hv, _⟩ := h
  exact ⟨A, _, hv⟩
theorem VW_nil (d : Kd α) (e : Nat) (W : World) (base : Nat) (ok : Nat → Prop) : VW d e W base ok (.slice none 0 0) [] := by
  refine ⟨none, rfl, ?_, fun W' _ => ⟨Kd.C_nil d W', ?_⟩⟩
  · intro ad h
    cases h
  · intro ad h
    cases h
theorem VW_mono (h : VW d e W base ok v xs) (hok : ∀ k, ok k → ok' k) : VW d e W base ok' v xs := by
  obtain ⟨A, hv, h1, hf⟩ := h
  exact ⟨A, hv, fun ad ha h0 => hok _ (h1 ad ha h0), hf.mono hok⟩
theorem VW_lower (h : VW d e W base ok v xs) (_ : base' ≤ base) : VW d e W base' ok v xs := h
theorem VW_step (h : VW d e W base ok v xs) (hm : ∀ k, ok k → k < W.heap.size → w1.heap[k]? = W.heap[k]?) : VW d e w1 base ok v xs := by
  obtain ⟨A, hv, h1, hf⟩ := h
  exact ⟨A, hv, h1, hf.step hm⟩
theorem VW_below (h : VW d e W base ok v xs) (hb : RowKit.Below W.heap.size W w1) : VW d e w1 base ok v xs := VW_step h (fun k _ hlt => hb.block k hlt)
theorem VW_alloc (h : VW d e W base ok v xs) (o : Obj) : VW d e (W.alloc o) base ok v xs := VW_below h (below_alloc (RowKit.Below.refl _ _) o)
theorem VW_drew (h : VW d e W base ok v xs) : VW d e W.drew base ok v xs := VW_below h (below_drew (RowKit.Below.refl _ _))
theorem VW_drewN (h : VW d e W base ok v xs) (m : Nat) : VW d e (W.drewN m) base ok v xs := VW_below h (pw_below_drewN (RowKit.Below.refl _ _) m)
theorem VW_far (h : VW d e W base ok v xs) {p : Addr} (hok : ∀ k, ok k → k ≠ p.block) (u : Value) : VW d e (W.setCell p u) base ok v xs := VW_step h (fun k hk _ => Below.heap_setCell W p u k (hok k hk))
theorem VW_bound {xs : List ByteArray} (h : VW Kd.string e W base ok v xs) : VW Kd.string e W base (fun k => ok k ∧ k < W.heap.size) v xs := by
  obtain ⟨A, hv, h1, hf⟩ := h
  refine ⟨A, hv, fun ad ha h0 => ⟨h1 ad ha h0, ?_⟩, hf.bound⟩
  obtain ⟨ad', e1, _⟩ := (hf.now).1.2.2 h0
  obtain ⟨ad', he, hcell⟩ := Kd.at_string (hf.now).1 0 (by omega) (by omega)
  rw [ha] at he
  injection he with he
  subst he
  have := World.block_lt_of_cell? W _ hcell
  simpa [Addr.add] using this
theorem VW_elderB {xs : List ByteArray} (h : VW Kd.string e W base ok v xs) (a : Nat) (ha : W.heap.size ≤ a) : VW Kd.string e W base (fun k => ok k ∧ k ≠ a) v xs := VW_mono (VW_bound h) (fun k hk => ⟨hk.1, by have := hk.2; omega⟩)
theorem VW_elder' {xs : List ByteArray} (h : VW Kd.string e W base ok v xs) (hbase : ∀ k, u.ownBlock = some k → W.heap.size ≤ k) (hb : RowKit.Below W.heap.size W w1) : VW Kd.string e w1 base (fun k => ok k ∧ some k ≠ u.ownBlock) v xs :=
  VW_mono (VW_step (VW_bound h) (fun k hk _ => hb.block k hk.2)) (fun k hk => ⟨hk.1, fun he => by have := hbase k he.symm; have := hk.2; omega⟩)
end

def PlusPost (l : List ByteArray) (w : World) (e : Ending) (w' : World) : Prop :=
  ∃ v : Value, e = .returned v ∧ VW Kd.string 9 w' w.heap.size (fun k_ => w.heap.size ≤ k_) v (plusS l) ∧ RowKit.Below w.heap.size w w'

theorem clip_nil (w : World) : Calls Try.prog 44 #[.slice none 0 0] w fun e w' => e = .returned (.slice none 0 0) ∧ w = w' := by
  go_enter Try.func44, Try.ntmps44
  go_wp2
  go_ret
  exact ⟨rfl, rfl⟩
theorem clip_any (a : Addr) (k cap : Nat) (h : k ≤ cap) (w : World) : Calls Try.prog 44 #[.slice (some a) k cap] w fun e w' => e = .returned (.slice (some a) k k) ∧ w = w' := by
  go_enter Try.func44, Try.ntmps44
  go_wp2
  go_ret
  exact ⟨rfl, rfl⟩

theorem sort_nil (w : World) : Calls Try.prog 43 #[.slice none 0 0] w fun e w' => e = .returned (.tuple #[]) ∧ w = w' :=
  (AnyM.slices_Sort_string_none Try.sort43 none 0 w).mono fun _ _ ⟨h1, h2⟩ => ⟨h1, h2.symm⟩
theorem compact_nil (w : World) : Calls Try.prog 45 #[.slice none 0 0] w fun e w' => e = .returned (.slice none 0 0) ∧ w = w' :=
  (AnyG.slices_Compact_string_empty Try.compact45 none 0 w).mono fun _ _ ⟨h1, h2⟩ => ⟨h1, h2.symm⟩

/-- Block g holds these texts; what lay below B in w0 is as it was. -/
structure SRow (w0 : World) (B g cap : Nat) (d : List (List UInt8)) (w : World) : Prop where
  holds : Holds encStr w g 0 d.toArray
  lt : g < w.heap.size
  base : B ≤ g
  fits : d.length ≤ cap
  small : d.length ≤ 9223372036854775807
  bel : RowKit.Below B w0 w
  sz : B ≤ w.heap.size

def SortPost (w0 : World) (B g cap : Nat) (l : List ByteArray) (e : Ending) (w' : World) : Prop := e = .returned (.tuple #[]) ∧ SRow w0 B g cap (sortL l) w'
theorem sort_any (w0 : World) (B g cap : Nat) (l : List ByteArray) (w : World) (h : SRow w0 B g cap (l.map toL) w) (hs : l.length < 4611686018427387904) :
    Calls Try.prog 43 #[.slice (some ⟨g, 0, none⟩) l.length cap] w (SortPost w0 B g cap l) := by
  have c := AnyM.slices_Sort_string Try.sort43 g 0 cap (l.map toL) w h.holds h.lt (by simpa using hs)
  rw [List.length_map] at c
  refine c.mono ?_
  rintro e w' ⟨he, n, os, rfl⟩
  have hl : (sortL l).toArray.size = (l.map toL).toArray.size := by simp [sortL]
  exact ⟨he, holds_put _ _ _ _ _ _ _ h.holds h.lt hl, by have := h.lt; simp [grow, putRow, mapBlock, Sort.ahead]; omega, h.base, by rw [sortL_len]; simpa using h.fits, by rw [sortL_len]; omega,
    h.bel.trans (below_put _ _ _ _ _ _ _ h.base h.sz), by have := h.sz; simp [grow, putRow, mapBlock, Sort.ahead]; omega⟩

/-- The row's head, as what is only read. -/
theorem V_of_holds {w : World} {g cap base : Nat} {d : Array (List UInt8)} {xs : List (List UInt8)} {ok : Nat → Prop} (hH : Holds encStr w g 0 d) (hg : g < w.heap.size) (hok : ok g) (hx : ∀ j, j < xs.length → j < d.size ∧ d[j]! = xs[j]!) (hk : xs.length ≤ cap) (hm : xs.length ≤ 9223372036854775807) :
    Kd.V Kd.string 9 w base ok (.slice (some ⟨g, 0, none⟩) (xs.map ofL).length cap) (xs.map ofL) := by
  refine Kd.V_mk (by simpa using hk) fun W' hW => ?_
  have hb : W'.heap[g]? = w.heap[g]? := hW g hok hg
  refine ⟨rfl, by simpa using hm, fun _ => ⟨_, rfl, fun j p hj => ?_⟩⟩
  have hjl : j < xs.length := by
    have := (List.getElem?_eq_some_iff.1 hj).1
    simpa using this
  obtain ⟨h1, h2⟩ := hx j hjl
  have hcell : W'.cell? ⟨g, 0 + j, none⟩ = some (encStr d[j]!) := (World.cell?_of_block hb).trans (hH j h1).1
  refine ⟨[.string p], rfl, rfl, fun i u hu => ?_⟩
  have hi : i = 0 := by
    have := (List.getElem?_eq_some_iff.1 hu).1
    simp at this
    exact this
  subst hi
  simp at hu
  subst hu
  have e : (Kd.string).sz = 1 := rfl
  rw [e, Nat.mul_one, Nat.add_zero, add_plain]
  rw [Nat.zero_add] at hcell
  rw [hcell, h2]
  have : p = ofL xs[j]! := by
    rw [List.getElem?_map] at hj
    simp [hjl] at hj
    rw [← hj]
    simp [hjl]
  rw [this, enc_ofL]

theorem VW_of_holds {w : World} {g base : Nat} {d : Array (List UInt8)} {xs : List (List UInt8)} {ok : Nat → Prop} (hH : Holds encStr w g 0 d) (hg : g < w.heap.size) (hok : ok g) (hx : ∀ j, j < xs.length → j < d.size ∧ d[j]! = xs[j]!) (hm : xs.length ≤ 9223372036854775807) :
    VW Kd.string 9 w base ok (.slice (some ⟨g, 0, none⟩) (xs.map ofL).length (xs.map ofL).length) (xs.map ofL) := by
  obtain ⟨A, c, he, hl, hF⟩ := V_of_holds (base := base) (cap := xs.length) hH hg hok hx (Nat.le_refl _) hm
  injection he with h1 h2 h3
  subst h1
  refine ⟨_, rfl, fun ad ha _ => by injection ha with ha; subst ha; exact hok, fun W' hW => ⟨hF W' hW, fun ad ha j hj => ?_⟩⟩
  injection ha with ha
  subst ha
  have hb : W'.heap[g]? = w.heap[g]? := hW g hok hg
  have := (hH j (hx j (by simpa using hj)).1).2
  rw [Nat.zero_add] at this
  rw [add_plain, ← this]
  exact World.frozen?_of_block (a := ⟨g, j, none⟩) hb

def CompPost (w0 : World) (B g cap : Nat) (d : List (List UInt8)) (e : Ending) (w' : World) : Prop :=
  e = .returned (.slice (some ⟨g, 0, none⟩) (Lib.compact d).length cap) ∧ (Lib.compact d).length ≤ cap ∧ RowKit.Below B w0 w' ∧ B ≤ w'.heap.size ∧ ∀ (base : Nat), VW Kd.string 9 w' base (fun k_ => B ≤ k_) (.slice (some ⟨g, 0, none⟩) ((Lib.compact d).map ofL).length ((Lib.compact d).map ofL).length) ((Lib.compact d).map ofL)
theorem compact_any (w0 : World) (B g cap : Nat) (d : List (List UInt8)) (w : World) (h : SRow w0 B g cap d w) :
    Calls Try.prog 45 #[.slice (some ⟨g, 0, none⟩) d.length cap] w (CompPost w0 B g cap d) := by
  refine (AnyG.slices_Compact_string Try.compact45 g 0 cap d w h.holds h.small h.fits).mono ?_
  rintro e w' ⟨he, q, rfl⟩
  have hle := compact_le d
  have hf := h.fits
  have hlt := h.lt
  have hz := h.sz
  have hsm := h.small
  have hs : (Lib.compact d ++ List.replicate (d.length - (Lib.compact d).length) []).toArray.size = d.toArray.size := by simp; omega
  have hp := holds_put encStr w q g d.toArray _ #[] h.holds h.lt hs
  have hb := below_put encStr w q g 0 (Lib.compact d ++ List.replicate (d.length - (Lib.compact d).length) []).toArray #[] h.base h.sz
  have e1 : ∀ W : World, grow W #[] = W := fun W => by simp [grow]
  rw [e1] at hp hb
  exact ⟨he, by omega, h.bel.trans hb, by simp [putRow, mapBlock, Sort.ahead]; omega, fun base => VW_of_holds hp (by simpa [putRow, mapBlock, Sort.ahead] using hlt) h.base (compact_head d _) (by omega)⟩

theorem plus_nil (w' : World) (base : Nat) (ok : Nat → Prop) : VW Kd.string 9 w' base ok (.slice none 0 0) (plusS []) := by
  have e : plusS [] = [] := by
    have : sortL [] = [] := by simp [sortL]
    unfold plusS
    rw [this]
    rfl
  rw [e]
  exact VW_nil _ _ _ _ _
set_option maxHeartbeats 2000000 in
theorem plus_any (A B : Option Addr) (c d : Nat) (l m : List ByteArray) (w : World) (hl : Kd.C Kd.string w A l.length l) (hm : Kd.C Kd.string w B m.length m) (hsum : (l.length + m.length) * 16 ≤ 281474976710656) :
    Calls Try.prog 31 #[.slice A l.length c, .slice B m.length d] w (PlusPost (l ++ m) w) := by
  have hL := Lib.hid hl
  have hM := Lib.hid hm
  clear hl hm
  have hlen : (l ++ m).length < 4611686018427387904 := by rw [List.length_append]; omega
  go_enter Try.func31, Try.ntmps31
  go_wp2_with fail
  refine (concat_any A B c d l m w.heap.size 2 _ (Kd.C_below hL.out ((Below.refl _ _).alloc (Nat.le_refl _) _)) (Kd.C_below hM.out ((Below.refl _ _).alloc (Nat.le_refl _) _)) (by simp [World.cell?_alloc_new]) (by simp [World.cell?_alloc_new]) hsum).mono ?_
  have hba : RowKit.Below w.heap.size w (w.alloc (.cells #[.slice A l.length c, .slice B m.length d] 22)) := (Below.refl _ _).alloc (Nat.le_refl _) _
  have hsz : (w.alloc (.cells #[.slice A l.length c, .slice B m.length d] 22)).heap.size = w.heap.size + 1 := by simp
  clear hL hM hsum
  generalize hss : l ++ m = ss at *
  clear hss
  rintro e w1 (⟨h0, rfl, hb⟩ | ⟨cap, h0, he, hown, hb⟩)
  · have HB := Lib.hid (hba.trans (hb.mono (by omega)))
    subst h0
    clear hb hba hsz hlen
    go_wp2_with (first | (go_at_call 43; refine (sort_nil _).mono ?_; rintro e w' ⟨rfl, rfl⟩) | (go_at_call 45; refine (compact_nil _).mono ?_; rintro e w' ⟨rfl, rfl⟩) | (go_at_call 44; refine (clip_nil _).mono ?_; rintro e w' ⟨rfl, rfl⟩))
    go_ret
    exact ⟨_, rfl, plus_nil _ _ _, HB.out⟩
  · rw [hsz] at he hown hb
    have hH := holds_of_own hown
    have hS : SRow w w.heap.size (w.heap.size + 1) cap (ss.map toL) w1 :=
      ⟨hH.1, hH.2.1, by omega, by simpa using hH.2.2.2, by simp; omega, hba.trans (hb.mono (by omega)), by have := hH.2.1; omega⟩
    have HS := Lib.hid hS
    have HL := Lib.hid hlen
    clear hS hH hown hb h0 hba hsz hlen
    subst he
    generalize w.heap.size + 1 = g at *
    go_wp2_with fail
    refine (sort_any _ _ _ _ _ _ HS.out HL.out).mono ?_
    rintro e w2 ⟨rfl, hS2⟩
    have HS2 := Lib.hid hS2
    clear hS2 HS
    have hsl := sortL_len ss
    generalize hso : sortL ss = so at *
    have HSO := Lib.hid hso
    clear hso
    rw [← hsl]
    clear hsl
    go_wp2_with fail
    refine (compact_any _ _ _ _ _ _ HS2.out).mono ?_
    rintro e w3 ⟨rfl, hk, hb, hz, hV⟩
    have HV := Lib.hid hV
    have HB := Lib.hid hb
    clear hV hb HS2
    go_wp2_with (go_at_call 44; refine (clip_any _ _ _ hk _).mono ?_; rintro e w' ⟨rfl, rfl⟩)
    go_ret
    refine ⟨_, rfl, ?_, HB.out⟩
    have := HV.out w.heap.size
    rw [plusS, HSO.out]
    simpa using this
end Go.Proofs.Ytodonkgheffibaa.Hand
