/- fareboxlaw13.lent by hand: texts in memory of their own, with a mark behind them. -/
import Derived.Test.YtodonkgheffibaaHand5
namespace Go.Proofs.Ytodonkgheffibaa.Hand
open Go.RowKit Go.Proofs.YtodonkgheffibaaW.PrintWords Go.Proofs.YtodonkgheffibaaW.PrintLast Go.Proofs.YtodonkgheffibaaW.PrintMore
open Go.Proofs.Ytodonkgheffibaa

def mark : ByteArray := ⟨#[109, 97, 114, 107]⟩
theorem v_mark : (strsV [mark]).toArray = #[Value.string ⟨#[109, 97, 114, 107]⟩] := rfl
/-- What lent leaves: a row of its own, the mark behind it. -/
def LentPost (l : List ByteArray) (w : World) (e : Ending) (w' : World) : Prop :=
  ∃ g, w.heap.size ≤ g ∧ e = .returned (.slice (some ⟨g, 0, none⟩) l.length (l.length + 1)) ∧ Blk w' g 9 (strsV (l ++ [mark])).toArray ∧ Below w.heap.size w w'

theorem blk_of_own {w : World} {base g n : Nat} {xs : List ByteArray} (h : w.ownsRow base 9 1 (.slice (some ⟨g, 0, none⟩) n n) n (strsV xs)) : Blk w g 9 (strsV xs).toArray := by
  rcases h.2 with ⟨h1, _⟩ | ⟨g', cap, cur, h1, _, hh, _, _, hs, ht⟩
  · cases h1
  · injection h1 with h2 h3 h4
    injection h2 with h2
    injection h2 with h2
    subst h2 h4
    have e : cur.toList.length = n := by simp; omega
    rw [Nat.mul_one, List.take_of_length_le (by omega)] at ht
    rw [← ht]
    exact hh
set_option maxHeartbeats 2000000 in
theorem lent_any (A : Option Addr) (c : Nat) (l : List ByteArray) (w : World) (hr : Kd.C Kd.string w A l.length l) (hb : (l.length + 1) * 16 ≤ 281474976710656) :
    Calls Try.prog 9 #[.slice A l.length c] w (LentPost l w) := by
  obtain ⟨i0, hi, hz0, hz1, hz2⟩ := info_parts info9s
  have hL := Lib.hid hr
  have hw : wrap64 ((l.length : Int) + 1) = (l.length + 1 : Nat) := by unfold wrap64; omega
  clear hr
  go_enter Try.func9, Try.ntmps9
  go_wp2_with (first | (at_make; refine wpList_make_own _ rfl (.const (.int .i64 0)) (.tmp 6) 22 rfl w.heap.size 9 i0 (.string ⟨#[]⟩) 1 Try.underlying22 hi hz0 hz1 .i64 .i64 _ (l.length + 1) rfl rfl (by omega) (by rw [hz2]; omega) (Nat.le_trans (by omega : l.length + 1 ≤ 281474976710656) (by decide)) (Nat.le_refl _) ?_; intro w1 hown1 hg1; have hB1 := Lib.hid ((Below.refl w.heap.size w).grown hg1 (Nat.le_refl _) (fun k hk => by cases hk)); have hC1 : Kd.C Kd.string w1 A l.length l := Kd.C_below hL.out hB1.out) |
    (at_builtin; refine wpList_append_fits_C _ rfl (.tmp 7) (.tmp 8) 22 rfl w.heap.size 9 i0 Try.underlying22 hi hz1 w.heap.size 0 (l.length + 1) _ rfl hown1 A c l rfl hC1 (by omega) ?_; intro w2 hown2 hg2; have hB2 := Lib.hid (hB1.out.grown hg2 hB1.out.size (fun k hk => by cases hk; exact Nat.le_refl _));
      have hO2 : ∀ o, (w2.alloc o).ownsRow w.heap.size 9 1 (.slice (some ⟨w.heap.size, 0, none⟩) l.length (l.length + 1)) l.length (strsV l) := fun o => own_move (by simpa using hown2) (fun k hk => Below.heap_alloc w2 o k (own_lt hown2 k hk)); clear hown2 hown1 hg1 hg2 hC1 hB1) |
    (at_builtin; refine wpList_append_fits_C _ rfl (.tmp 10) (.tmp 11) 22 rfl w.heap.size 9 i0 Try.underlying22 hi hz1 w.heap.size l.length (l.length + 1) _ rfl (hO2 _) (some ⟨w2.heap.size, 0, none⟩) 1 [mark] rfl (C_of_blk (Blk.new w2 9 _) (by decide)) (by simp) ?_; intro w3 hown3 hg3; have hB3 := Lib.hid ((hB2.out.alloc (hB2.out.size) _).grown hg3 (by simp; have := hB2.out.size; omega) (fun k hk => by cases hk; exact Nat.le_refl _))))
  go_ret
  exact ⟨w.heap.size, Nat.le_refl _, rfl, blk_of_own (base := w.heap.size) (n := l.length + 1) (by rw [strsV_append]; exact hown3), hB3.out⟩
end Go.Proofs.Ytodonkgheffibaa.Hand
