/- risk.plus: what is in one of two lists, sorted, each thing once: the walk over slices.Concat, slices.Sort (the shelf's contract), slices.Compact (the shelf's contract) and slices.Clip. -/
import Derived.Test.YtodonkgheffibaaHand2
import Derived.Test.YtodonkgheffibaaShelf
import Derived.Test.YtodonkgheffibaaWMore
namespace Go.Proofs.Ytodonkgheffibaa.Hand
open Go.RowKit Go.Sort Go.Proofs.YtodonkgheffibaaW.PrintWords Go.Proofs.YtodonkgheffibaaW.PrintLast Go.Proofs.YtodonkgheffibaaW.PrintMore

def toL (s : ByteArray) : List UInt8 := s.data.toList
def ofL (l : List UInt8) : ByteArray := ⟨l.toArray⟩
theorem enc_toL (s : ByteArray) : encStr (toL s) = .string s := by simp [encStr, toL]
theorem enc_ofL (l : List UInt8) : encStr l = .string (ofL l) := rfl
def sortL (l : List ByteArray) : List (List UInt8) := (l.map toL).mergeSort (fun x y => decide (x ≤ y))
def plusS (l : List ByteArray) : List ByteArray := (Lib.compact (sortL l)).map ofL
/-- What plus answers. -/
def plusL (a b : List ByteArray) : List ByteArray := plusS (a ++ b)

theorem sortL_len (l : List ByteArray) : (sortL l).length = l.length := by simp [sortL]

theorem holds_of_own {w : World} {base g cap : Nat} {l : List ByteArray} (h : w.ownsRow base 9 1 (.slice (some ⟨g, 0, none⟩) l.length cap) l.length (strsV l)) : Holds encStr w g 0 (l.map toL).toArray ∧ g < w.heap.size ∧ base ≤ g ∧ l.length ≤ cap := by
  have hlt : g < w.heap.size := own_lt h g (by simp [Value.ownBlock])
  have hb : base ≤ g := own_base h g (by simp [Value.ownBlock])
  refine ⟨fun j hj => ?_, hlt, hb, ?_⟩
  · have hj' : j < l.length := by simpa using hj
    have hc := h.cells (g := g) rfl j (.string l[j]) (by simp [strsV, hj'])
    have hf : w.frozen? ⟨g, j, none⟩ = false := by
      obtain ⟨cells, hc2⟩ := own_typed h g (by simp [Value.ownBlock])
      simp [World.frozen?, hc2]
    rw [Nat.zero_add]
    refine ⟨?_, hf⟩
    rw [add_plain] at hc
    rw [hc]
    simp [hj', enc_toL]
  · rcases h.2 with ⟨h1, _⟩ | ⟨g', cap', cur, h1, _, _, h2, _⟩
    · cases h1
    · injection h1 with _ _ h3
      omega

theorem below_put {α : Type} [Inhabited α] (enc : α → Value) (w : World) (n g off : Nat) (d : Array α) (os : Array Obj) {B : Nat} (hB : B ≤ g) (hw : B ≤ w.heap.size) : RowKit.Below B w (grow (putRow enc (Sort.ahead w n) g off d) os) := by
  refine ⟨rfl, rfl, rfl, by simp [grow, putRow, mapBlock, Sort.ahead], fun i hi => ?_⟩
  have h1 : i < (putRow enc (Sort.ahead w n) g off d).heap.size := by simp [putRow, mapBlock, Sort.ahead]; omega
  rw [heap_grow_old _ _ h1]
  simp only [putRow, mapBlock, Sort.ahead, Array.getElem?_modify]
  rw [if_neg (by omega)]

theorem holds_put {α : Type} [Inhabited α] (enc : α → Value) (w : World) (n g : Nat) (d d' : Array α) (os : Array Obj) (hH : Holds enc w g 0 d) (hg : g < w.heap.size) (hs : d'.size = d.size) : Holds enc (grow (putRow enc (Sort.ahead w n) g 0 d') os) g 0 d' :=
  holds_grow _ _ _ _ _ _ (by simpa [putRow, mapBlock, Sort.ahead] using hg) (holds_putRow enc _ g 0 d d' (holds_ahead _ _ _ _ _ _ hH) hs)

/-- The row's head, as what is only read. -/
theorem V_of_holds {w : World} {g cap base : Nat} {d : Array (List UInt8)} {xs : List (List UInt8)} {ok : Nat → Prop} (hH : Holds encStr w g 0 d) (hg : g < w.heap.size) (hok : ok g) (hx : ∀ j, j < xs.length → j < d.size ∧ d[j]! = xs[j]!) (hk : xs.length ≤ cap) (hm : xs.length ≤ 9223372036854775807) :
    Kd.V Kd.string 9 w base ok (.slice (some ⟨g, 0, none⟩) (xs.map ofL).length cap) (xs.map ofL) := by
  refine Kd.V_mk (by simpa using hk) fun W' hW => ?_
  have hb : W'.heap[g]? = w.heap[g]? := hW g hok hg
  refine ⟨rfl, by simpa using hm, fun _ => ⟨_, rfl, fun j p hj => ?_⟩⟩
  have hjl : j < xs.length := by
    have := (List.getElem?_eq_some_iff.1 hj).1
    simpa using this
  obtain ⟨h1, h2⟩ := hx j hjl
  have hcell : W'.cell? ⟨g, 0 + j, none⟩ = some (encStr d[j]!) := (World.cell?_of_block hb).trans (hH j h1).1
  refine ⟨[.string p], rfl, rfl, fun i u hu => ?_⟩
  have hi : i = 0 := by
    have := (List.getElem?_eq_some_iff.1 hu).1
    simp at this
    exact this
  subst hi
  simp at hu
  subst hu
  have e : (Kd.string).sz = 1 := rfl
  rw [e, Nat.mul_one, Nat.add_zero, add_plain]
  rw [Nat.zero_add] at hcell
  rw [hcell, h2]
  have : p = ofL xs[j]! := by
    rw [List.getElem?_map] at hj
    simp [hjl] at hj
    rw [← hj]
    simp [hjl]
  rw [this, enc_ofL]

theorem compact_head (d : List (List UInt8)) (n : Nat) : ∀ j, j < (Lib.compact d).length → j < (Lib.compact d ++ List.replicate n []).toArray.size ∧ (Lib.compact d ++ List.replicate n []).toArray[j]! = (Lib.compact d)[j]! := by
  intro j hj
  refine ⟨by simp; omega, ?_⟩
  simp [List.getElem!_eq_getElem?_getD, List.getElem?_append, hj]
theorem compact_le (d : List (List UInt8)) : (Lib.compact d).length ≤ d.length := by
  unfold Lib.compact Lib.compactUpTo
  rw [List.length_map]
  exact Nat.le_trans (List.length_filter_le _ _) (by simp)

def PlusPost (l : List ByteArray) (w : World) (e : Ending) (w' : World) : Prop :=
  ∃ v : Value, e = .returned v ∧ Kd.V Kd.string 9 w' w.heap.size (fun k_ => w.heap.size ≤ k_) v (plusS l) ∧ RowKit.Below w.heap.size w w'

theorem clip_nil (w : World) : Calls Try.prog 44 #[.slice none 0 0] w fun e w' => e = .returned (.slice none 0 0) ∧ w = w' := by
  go_enter Try.func44, Try.ntmps44
  go_wp2
  go_ret
  exact ⟨rfl, rfl⟩
theorem clip_any (a : Addr) (k cap : Nat) (h : k ≤ cap) (w : World) : Calls Try.prog 44 #[.slice (some a) k cap] w fun e w' => e = .returned (.slice (some a) k k) ∧ w = w' := by
  go_enter Try.func44, Try.ntmps44
  go_wp2
  go_ret
  exact ⟨rfl, rfl⟩

theorem sort_nil (w : World) : Calls Try.prog 43 #[.slice none 0 0] w fun e w' => e = .returned (.tuple #[]) ∧ w = w' :=
  (AnyM.slices_Sort_string_none Try.sort43 none 0 w).mono fun _ _ ⟨h1, h2⟩ => ⟨h1, h2.symm⟩
theorem compact_nil (w : World) : Calls Try.prog 45 #[.slice none 0 0] w fun e w' => e = .returned (.slice none 0 0) ∧ w = w' :=
  (AnyG.slices_Compact_string_empty Try.compact45 none 0 w).mono fun _ _ ⟨h1, h2⟩ => ⟨h1, h2.symm⟩

/-- Block g holds these texts; what lay below B in w0 is as it was. -/
structure SRow (w0 : World) (B g cap : Nat) (d : List (List UInt8)) (w : World) : Prop where
  holds : Holds encStr w g 0 d.toArray
  lt : g < w.heap.size
  base : B ≤ g
  fits : d.length ≤ cap
  small : d.length ≤ 9223372036854775807
  bel : RowKit.Below B w0 w
  sz : B ≤ w.heap.size

def SortPost (w0 : World) (B g cap : Nat) (l : List ByteArray) (e : Ending) (w' : World) : Prop := e = .returned (.tuple #[]) ∧ SRow w0 B g cap (sortL l) w'
theorem sort_any (w0 : World) (B g cap : Nat) (l : List ByteArray) (w : World) (h : SRow w0 B g cap (l.map toL) w) (hs : l.length < 4611686018427387904) :
    Calls Try.prog 43 #[.slice (some ⟨g, 0, none⟩) l.length cap] w (SortPost w0 B g cap l) := by
  have c := AnyM.slices_Sort_string Try.sort43 g 0 cap (l.map toL) w h.holds h.lt (by simpa using hs)
  rw [List.length_map] at c
  refine c.mono ?_
  rintro e w' ⟨he, n, os, rfl⟩
  have hl : (sortL l).toArray.size = (l.map toL).toArray.size := by simp [sortL]
  exact ⟨he, holds_put _ _ _ _ _ _ _ h.holds h.lt hl, by have := h.lt; simp [grow, putRow, mapBlock, Sort.ahead]; omega, h.base, by rw [sortL_len]; simpa using h.fits, by rw [sortL_len]; omega,
    h.bel.trans (below_put _ _ _ _ _ _ _ h.base h.sz), by have := h.sz; simp [grow, putRow, mapBlock, Sort.ahead]; omega⟩

def CompPost (w0 : World) (B g cap : Nat) (d : List (List UInt8)) (e : Ending) (w' : World) : Prop :=
  e = .returned (.slice (some ⟨g, 0, none⟩) (Lib.compact d).length cap) ∧ (Lib.compact d).length ≤ cap ∧ RowKit.Below B w0 w' ∧ B ≤ w'.heap.size ∧ ∀ (base c : Nat), (Lib.compact d).length ≤ c → Kd.V Kd.string 9 w' base (fun k_ => B ≤ k_) (.slice (some ⟨g, 0, none⟩) ((Lib.compact d).map ofL).length c) ((Lib.compact d).map ofL)
theorem compact_any (w0 : World) (B g cap : Nat) (d : List (List UInt8)) (w : World) (h : SRow w0 B g cap d w) :
    Calls Try.prog 45 #[.slice (some ⟨g, 0, none⟩) d.length cap] w (CompPost w0 B g cap d) := by
  refine (AnyG.slices_Compact_string Try.compact45 g 0 cap d w h.holds h.small h.fits).mono ?_
  rintro e w' ⟨he, q, rfl⟩
  have hle := compact_le d
  have hf := h.fits
  have hlt := h.lt
  have hz := h.sz
  have hsm := h.small
  have hs : (Lib.compact d ++ List.replicate (d.length - (Lib.compact d).length) []).toArray.size = d.toArray.size := by simp; omega
  have hp := holds_put encStr w q g d.toArray _ #[] h.holds h.lt hs
  have hb := below_put encStr w q g 0 (Lib.compact d ++ List.replicate (d.length - (Lib.compact d).length) []).toArray #[] h.base h.sz
  have e1 : ∀ W : World, grow W #[] = W := fun W => by simp [grow]
  rw [e1] at hp hb
  exact ⟨he, by omega, h.bel.trans hb, by simp [putRow, mapBlock, Sort.ahead]; omega, fun base c hc => V_of_holds hp (by simpa [putRow, mapBlock, Sort.ahead] using hlt) h.base (compact_head d _) hc (by omega)⟩

theorem plus_nil (w' : World) (base : Nat) (ok : Nat → Prop) : Kd.V Kd.string 9 w' base ok (.slice none 0 0) (plusS []) := by
  have e : plusS [] = [] := by
    have : sortL [] = [] := by simp [sortL]
    unfold plusS
    rw [this]
    rfl
  rw [e]
  exact Kd.V_mk (Nat.le_refl _) fun W' _ => Kd.C_nil _ _
set_option maxHeartbeats 2000000 in
theorem plus_any (A B : Option Addr) (c d : Nat) (l m : List ByteArray) (w : World) (hl : Kd.C Kd.string w A l.length l) (hm : Kd.C Kd.string w B m.length m) (hsum : (l.length + m.length) * 16 ≤ 281474976710656) :
    Calls Try.prog 31 #[.slice A l.length c, .slice B m.length d] w (PlusPost (l ++ m) w) := by
  have hL := Lib.hid hl
  have hM := Lib.hid hm
  clear hl hm
  have hlen : (l ++ m).length < 4611686018427387904 := by rw [List.length_append]; omega
  go_enter Try.func31, Try.ntmps31
  go_wp2_with fail
  refine (concat_any A B c d l m w.heap.size 2 _ (Kd.C_below hL.out ((Below.refl _ _).alloc (Nat.le_refl _) _)) (Kd.C_below hM.out ((Below.refl _ _).alloc (Nat.le_refl _) _)) (by simp [World.cell?_alloc_new]) (by simp [World.cell?_alloc_new]) hsum).mono ?_
  have hba : RowKit.Below w.heap.size w (w.alloc (.cells #[.slice A l.length c, .slice B m.length d] 22)) := (Below.refl _ _).alloc (Nat.le_refl _) _
  have hsz : (w.alloc (.cells #[.slice A l.length c, .slice B m.length d] 22)).heap.size = w.heap.size + 1 := by simp
  clear hL hM hsum
  generalize hss : l ++ m = ss at *
  clear hss
  rintro e w1 (⟨h0, rfl, hb⟩ | ⟨cap, h0, he, hown, hb⟩)
  · have HB := Lib.hid (hba.trans (hb.mono (by omega)))
    subst h0
    clear hb hba hsz hlen
    go_wp2_with (first | (go_at_call 43; refine (sort_nil _).mono ?_; rintro e w' ⟨rfl, rfl⟩) | (go_at_call 45; refine (compact_nil _).mono ?_; rintro e w' ⟨rfl, rfl⟩) | (go_at_call 44; refine (clip_nil _).mono ?_; rintro e w' ⟨rfl, rfl⟩))
    go_ret
    exact ⟨_, rfl, plus_nil _ _ _, HB.out⟩
  · rw [hsz] at he hown hb
    have hH := holds_of_own hown
    have hS : SRow w w.heap.size (w.heap.size + 1) cap (ss.map toL) w1 :=
      ⟨hH.1, hH.2.1, by omega, by simpa using hH.2.2.2, by simp; omega, hba.trans (hb.mono (by omega)), by have := hH.2.1; omega⟩
    have HS := Lib.hid hS
    have HL := Lib.hid hlen
    clear hS hH hown hb h0 hba hsz hlen
    subst he
    generalize w.heap.size + 1 = g at *
    go_wp2_with fail
    refine (sort_any _ _ _ _ _ _ HS.out HL.out).mono ?_
    rintro e w2 ⟨rfl, hS2⟩
    have HS2 := Lib.hid hS2
    clear hS2 HS
    have hsl := sortL_len ss
    generalize hso : sortL ss = so at *
    have HSO := Lib.hid hso
    clear hso
    rw [← hsl]
    clear hsl
    go_wp2_with fail
    refine (compact_any _ _ _ _ _ _ HS2.out).mono ?_
    rintro e w3 ⟨rfl, hk, hb, hz, hV⟩
    have HV := Lib.hid hV
    have HB := Lib.hid hb
    clear hV hb HS2
    go_wp2_with (go_at_call 44; refine (clip_any _ _ _ hk _).mono ?_; rintro e w' ⟨rfl, rfl⟩)
    go_ret
    refine ⟨_, rfl, ?_, HB.out⟩
    have := HV.out w.heap.size _ (Nat.le_refl _)
    rw [plusS, HSO.out]
    simpa using this
end Go.Proofs.Ytodonkgheffibaa.Hand
