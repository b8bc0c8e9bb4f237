/- fareboxlaw13.kept and spoil by hand: what is theirs is as it was; then they write over it, and over nothing else. -/
import Derived.Test.YtodonkgheffibaaHand6
namespace Go.Proofs.Ytodonkgheffibaa.Hand
open Go.RowKit Go.Proofs.YtodonkgheffibaaW.PrintWords Go.Proofs.YtodonkgheffibaaW.PrintLast Go.Proofs.YtodonkgheffibaaW.PrintMore
open Go.Proofs.Ytodonkgheffibaa Go.Proofs.Ytodonkgheffibaa.PA Go.Proofs.Ytodonkgheffibaa.PB

/-- Of w's blocks none but g has turned. -/
structure Bar (g : Nat) (w w' : World) : Prop where
  os : w'.os = w.os
  tape : w'.tape = w.tape
  output : w'.output = w.output
  size : w.heap.size ≤ w'.heap.size
  block : ∀ k, k < w.heap.size → k ≠ g → w'.heap[k]? = w.heap[k]?
  kept : ∀ cs t fz, w.heap[g]? = some (.cells cs t fz) → ∃ cs', w'.heap[g]? = some (.cells cs' t fz) ∧ cs'.size = cs.size
theorem Bar.refl (g : Nat) (w : World) : Bar g w w := ⟨rfl, rfl, rfl, Nat.le_refl _, fun _ _ _ => rfl, fun cs _ _ h => ⟨cs, h, rfl⟩⟩
theorem Bar.trans {g : Nat} {a b c : World} (h : Bar g a b) (k : Bar g b c) : Bar g a c :=
  ⟨k.os.trans h.os, k.tape.trans h.tape, k.output.trans h.output, Nat.le_trans h.size k.size, fun i hi hg => (k.block i (Nat.lt_of_lt_of_le hi h.size) hg).trans (h.block i hi hg), fun cs t fz h1 => by
    obtain ⟨c1, h2, h3⟩ := h.kept cs t fz h1
    obtain ⟨c2, h4, h5⟩ := k.kept c1 t fz h2
    exact ⟨c2, h4, h5.trans h3⟩⟩
theorem Bar.of_below {g : Nat} {w w' : World} (h : Below w.heap.size w w') : Bar g w w' := ⟨h.os, h.tape, h.output, h.size, fun k hk _ => h.block k hk, fun cs _ _ h1 => ⟨cs, (h.block g (Array.getElem?_eq_some_iff.1 h1).1).trans h1, rfl⟩⟩
theorem Bar.below {g B : Nat} {w w' : World} (h : Bar g w w') (hg : B ≤ g) (hw : B ≤ w.heap.size) : Below B w w' :=
  ⟨h.os, h.tape, h.output, h.size, fun k hk => h.block k (by omega) (by omega)⟩
theorem Bar.set_ (w : World) (p : Addr) (v : Value) {g : Nat} (h : p.block = g) : Bar g w (w.setCell p v) := by
  refine ⟨rfl, rfl, rfl, Nat.le_of_eq (by simp [World.setCell]), fun k _ hk => Below.heap_setCell w p v k (by omega), fun cs t fz h1 => ?_⟩
  subst h
  refine ⟨if p.spot.isSome then cs else cs.setIfInBounds p.off v, ?_, ?_⟩
  · simp only [World.setCell, Array.getElem?_modify, h1, if_true, Option.map_some]
  · split <;> simp
theorem Bar.set (w : World) (g i : Nat) (v : Value) : Bar g w (w.setCell ⟨g, i, none⟩ v) := Bar.set_ w ⟨g, i, none⟩ v rfl

def KeptPost (g : Nat) (w : World) (e : Ending) (w' : World) : Prop := e = .returned (.bool true) ∧ Bar g w w'

theorem same_any (A B : Option Addr) (c d : Nat) (l : List ByteArray) (w : World) (hl : Kd.C Kd.string w A l.length l) (hc : l.length ≤ c) (hm : Kd.C Kd.string w B l.length l) (hd : l.length ≤ d) :
    Calls Try.prog 22 #[.slice A l.length c, .slice B l.length d] w fun e w' => e = .returned (.bool true) ∧ ∃ n, w' = w.drewN n :=
  (XB.fareboxref13_SameTokens.calls A c l B d l true w hl hc hm hd (congrArg some ((sameS_iff l l).2 rfl))).mono fun _ _ ⟨h1, h2⟩ => ⟨h1, h2.out⟩
theorem C_head {g : Nat} {l : List ByteArray} {w : World} (hG : Blk w g 9 (strsV (l ++ [mark])).toArray) (hn : l.length + 1 ≤ 9223372036854775807) : Kd.C Kd.string w (some ⟨g, 0, none⟩) l.length l := by
  have h := Kd.C_take (C_of_blk hG (by simpa using hn)) (m := l.length) (by simp)
  have e : (l ++ [mark]).take l.length = l := by simp
  rw [e] at h
  exact h

set_option maxHeartbeats 2000000 in
theorem kept_any (g : Nat) (A : Option Addr) (c : Nat) (l : List ByteArray) (w : World) (hr : Kd.C Kd.string w A l.length l) (hc : l.length ≤ c) (hg : Blk w g 9 (strsV (l ++ [mark])).toArray) (hn : l.length + 1 ≤ 9223372036854775807) :
    Calls Try.prog 14 #[.slice (some ⟨g, 0, none⟩) l.length (l.length + 1), .slice A l.length c] w (KeptPost g w) := by
  have hL := Lib.hid hr
  have hG := Lib.hid hg
  clear hr hg
  go_enter Try.func14, Try.ntmps14
  go_wp2_with fail
  refine (same_any _ _ _ _ _ _ (C_head hG.out hn) (Nat.le_succ _) hL.out hc).mono ?_
  rintro e w1 ⟨rfl, m, rfl⟩
  have q0 : (w.drewN m).cell? ⟨g, l.length, none⟩ = some (.string mark) := ((hG.out.drewN m).cell _).trans (by simp [strsV])
  have q1 : w.cell? ⟨g, l.length, none⟩ = some (.string mark) := (hG.out.cell _).trans (by simp [strsV])
  have hmk : (mark.toList == [109, 97, 114, 107]) = true := by rw [toL_eq]; decide
  have e1 : (l.length : Int) + 1 ≤ ((l.length + 1 : Nat) : Int) := by omega
  go_wp2_with fail
  go_loopw [8] (fun i wr => ∃ k : Nat, i = .int .i64 (k : Int) ∧ k ≤ l.length + 1 ∧ Bar g w wr ∧ ∃ arr : Array Value, Blk wr g 9 arr ∧ arr.size = l.length + 1) (fun i _ => l.length + 1 - (intOf i).toNat)
  case atStart => exact ⟨0, rfl, by omega, Bar.of_below (pw_below_drewN (Below.refl _ _) m), _, hG.out.drewN m, by simp [strsV]⟩
  case round =>
    obtain ⟨k, rfl, hk, hB, arr, hA, hs⟩ := hrel
    by_cases hlt : k < l.length + 1
    · have x0 : wr.cell? ⟨g, k, none⟩ = some arr[k] := (hA.cell k).trans (Array.getElem?_eq_getElem (by omega))
      have x1 := hA.frozen k
      have b1 : decide ((k : Int) < ((l.length : Int) + 1)) = true := by simp; omega
      have b2 : decide ((k : Int) < ((l.length + 1 : Nat) : Int)) = true := by simp; omega
      go_wp2_with fail
      refine ⟨⟨k + 1, by simp, by omega, hB.trans (Bar.set _ _ _ _), _, blk_put hA k _ rfl, by simpa using hs⟩, by simp [intOf]; omega⟩
    · have b1 : decide ((k : Int) < ((l.length : Int) + 1)) = false := by simp; omega
      have b2 : decide ((k : Int) < ((l.length + 1 : Nat) : Int)) = false := by simp; omega
      go_wp2
      go_ret
      exact ⟨rfl, hB⟩
end Go.Proofs.Ytodonkgheffibaa.Hand
