/- The money's texts by hand: the words of a world in which the listed variables lie as they were laid; Cut at one byte. -/
import Derived.Test.YtdioaclegmalpaaDoorXAx0
import Derived.Test.YtdioaclegmalpaaDoorXAx1
import Derived.Test.YtdioaclegmalpaaDoorShelf
import Derived.Lib.Hide
import Derived.Lib.LaidTab
import Derived.Lib.AppendIntMem
import Derived.Shelf.RegionOpenPlain
namespace Go.Proofs.YtdioaclegmalpaaDoor.Hand
open Go.RowKit Go.Sort Go.Lib Go.Proofs.YtdioaclegmalpaaDoorW.PrintWords Go.Proofs.YtdioaclegmalpaaDoor.XA

/-- What the laid variables give a walk. -/
structure Laid (w : World) : Prop where
  tab : Lib.TabIs Tryd.prog w "internal/strconv.uint64pow10" .u64 Lib.pow10Tab
  syn : ∃ t p, w.cell? ⟨2, 0, none⟩ = some (.iface t p)
  ran : ∃ t p, w.cell? ⟨3, 0, none⟩ = some (.iface t p)

theorem cell_lt {w : World} {a : Addr} {v : Value} (h : w.cell? a = some v) : a.block < w.heap.size := by
  rcases Nat.lt_or_ge a.block w.heap.size with hlt | hge
  · exact hlt
  · unfold World.cell? at h
    rw [Array.getElem?_eq_none hge] at h
    simp at h

theorem cell_below {B : Nat} {w w' : World} {a : Addr} {v : Value} (h : Below B w w') (ha : a.block < B) (hc : w.cell? a = some v) : w'.cell? a = some v := by
  unfold World.cell? at hc ⊢
  rw [h.block a.block ha]
  exact hc

theorem Laid.below {w w' : World} (L : Laid w) (h : Below w.heap.size w w') : Laid w' := by
  obtain ⟨t1, p1, c1⟩ := L.syn
  obtain ⟨t2, p2, c2⟩ := L.ran
  refine ⟨?_, ⟨t1, p1, cell_below h (cell_lt c1) c1⟩, ⟨t2, p2, cell_below h (cell_lt c2) c2⟩⟩
  have ht := L.tab
  unfold Lib.TabIs World.var? at ht ⊢
  cases hg : Tryd.prog.globalNamed "internal/strconv.uint64pow10" with
  | none => rw [hg] at ht; simp at ht
  | some g =>
    rw [hg] at ht
    simp only [Option.bind_some] at ht ⊢
    have hlt : g < w.heap.size := by
      rcases Nat.lt_or_ge g w.heap.size with h' | h'
      · exact h'
      · rw [Array.getElem?_eq_none h'] at ht; simp at ht
    rw [h.block g hlt]
    exact ht

def cut1 (s : ByteArray) (c : UInt8) : ByteArray × ByteArray × Bool :=
  if 0 ≤ Lib.indexByte s.data.toList c then (s.extract 0 (Lib.indexByte s.data.toList c).toNat, s.extract ((Lib.indexByte s.data.toList c).toNat + 1) s.size, true) else (s, ByteArray.empty, false)

theorem mixed : Tryd.prog.follows Departure.mixedOrders = true := by kernel_rfl
set_option maxRecDepth 20000 in
theorem cutIn_any (s : ByteArray) (c : UInt8) (w : World) (hs : s.size ≤ 9223372036854775806) : Calls Tryd.prog 51 #[.string s, .string ⟨#[c]⟩] w fun e w' =>
    e = .returned (.tuple #[.string (cut1 s c).1, .string (cut1 s c).2.1, .bool (cut1 s c).2.2]) ∧ ∃ n, w' = w.drewN n := by
  by_cases hc : 0 ≤ Lib.indexByte s.data.toList c
  · obtain ⟨i, hi⟩ : ∃ i : Nat, Lib.indexByte s.data.toList c = i := ⟨(Lib.indexByte s.data.toList c).toNat, by omega⟩
    have hr : i < s.size := by
      have h := (Lib.indexByte_some hi).1
      rcases Nat.lt_or_ge i s.data.toList.length with h' | h'
      · rw [Lib.size_eq]; exact h'
      · rw [List.getElem?_eq_none h'] at h; cases h
    have e : cut1 s c = (s.extract 0 i, s.extract (i + 1) s.size, true) := by
      unfold cut1
      rw [hi, if_pos (by omega)]
      simp
    rw [e]
    have c1 : (0 : Int) ≤ ↑i := by omega
    have c2 : (↑i : Int) ≤ ↑s.size := by omega
    have c3 : (0 : Int) ≤ ↑i + 1 := by omega
    have c4 : (↑i + 1 : Int) ≤ ↑s.size := by omega
    have c5 : IntKind.i64.wrap (↑i + 1) = ↑i + 1 := by rw [IntKind.wrap_i64]; omega
    have mx := mixed
    go_enter Tryd.func51, Tryd.ntmps51
    go_wp2_with fail
    refine (Tryd.stringslite_Index_one s c w).mono ?_
    rw [hi]
    rintro e w1 ⟨rfl, rfl⟩
    go_wp2_with fail
    go_region_o
    go_wp2_with fail
    go_ret3
    exact ⟨rfl, 1, rfl⟩
  · have e : cut1 s c = (s, ByteArray.empty, false) := by
      unfold cut1
      rw [if_neg hc]
    rw [e]
    go_enter Tryd.func51, Tryd.ntmps51
    go_wp2_with fail
    refine (Tryd.stringslite_Index_one s c w).mono ?_
    rintro e w1 ⟨rfl, rfl⟩
    go_wp2_with fail
    go_ret3
    exact ⟨rfl, 0, rfl⟩

set_option maxRecDepth 20000 in
theorem cut_any (s : ByteArray) (c : UInt8) (w : World) (hs : s.size ≤ 9223372036854775806) : Calls Tryd.prog 40 #[.string s, .string ⟨#[c]⟩] w fun e w' =>
    e = .returned (.tuple #[.string (cut1 s c).1, .string (cut1 s c).2.1, .bool (cut1 s c).2.2]) ∧ ∃ n, w' = w.drewN n := by
  go_enter Tryd.func40, Tryd.ntmps40
  go_wp2_with fail
  refine (cutIn_any s c w hs).mono ?_
  rintro e w1 ⟨rfl, n, rfl⟩
  go_wp2_with fail
  go_ret3
  exact ⟨rfl, n, rfl⟩

theorem dec_len (u : Nat) : (Lib.decDigits u).length ≤ u + 1 := by
  induction u using Nat.strongRecOn with
  | ind u ih =>
    rw [Lib.decDigits]
    split
    · simp
    · have := ih (u / 10) (by omega)
      rw [List.length_append]
      simp only [List.length_singleton]
      omega
/-- Of z's blocks none has turned. -/
def Kept (z w : World) : Prop := Below z.heap.size z w
theorem Kept.refl (w : World) : Kept w w := Below.refl _ _
theorem Kept.drew (w : World) : Kept w w.drew := ⟨rfl, rfl, rfl, Nat.le_refl _, fun _ _ => rfl⟩
theorem Kept.laid {z w : World} (h : Kept z w) (L : Laid z) : Laid w := L.below h
theorem Kept.then {z w w' : World} (h : Kept z w) (h' : Below w.heap.size w w') : Kept z w' :=
  Below.trans h ⟨h'.os, h'.tape, h'.output, h'.size, fun k hk => h'.block k (Nat.lt_of_lt_of_le hk h.size)⟩
theorem Kept.drawn {z w w' : World} (h : Kept z w) (h' : Drawn0 w w') : Kept z w' := h.then h'.below
theorem Kept.drewN {z w : World} (h : Kept z w) (n : Nat) : Kept z (w.drewN n) := h.then ⟨rfl, rfl, rfl, Nat.le_refl _, fun _ _ => rfl⟩
end Go.Proofs.YtdioaclegmalpaaDoor.Hand
