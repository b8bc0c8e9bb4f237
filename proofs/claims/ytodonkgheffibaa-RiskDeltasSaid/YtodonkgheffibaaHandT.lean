/- What answers two rows (Diff, Join, the document's and the program's), in one form; SameDelta of equal deltas. -/
import Derived.Test.YtodonkgheffibaaHandS
import Derived.Test.YtodonkgheffibaaPureM
namespace Go.Proofs.Ytodonkgheffibaa.Hand
open Go.RowKit Go.Proofs.YtodonkgheffibaaW.PrintWords Go.Proofs.YtodonkgheffibaaW.PrintMore
open Go.Proofs.Ytodonkgheffibaa Go.Proofs.Ytodonkgheffibaa.PA Go.Proofs.Ytodonkgheffibaa.PB Go.Proofs.Ytodonkgheffibaa.PC Go.Proofs.Ytodonkgheffibaa.PJ

def TwoPost (r : Int × List ByteArray × List ByteArray × Int) (w : World) (e : Ending) (w' : World) : Prop :=
  ∃ A1 c1 A2 c2, e = .returned (.tuple #[.agg #[.int .i64 r.1, .slice A1 r.2.1.length c1, .slice A2 r.2.2.1.length c2], .int .i64 r.2.2.2]) ∧
    Kd.V Kd.string 9 w' w.heap.size (fun k => w.heap.size ≤ k) (.slice A1 r.2.1.length c1) r.2.1 ∧ Kd.V Kd.string 9 w' w.heap.size (fun k => w.heap.size ≤ k) (.slice A2 r.2.2.1.length c2) r.2.2.1 ∧
    Room w' w.heap.size w'.heap.size (.slice A1 r.2.1.length c1) r.2.1.length ∧ Room w' w.heap.size w'.heap.size (.slice A2 r.2.2.1.length c2) r.2.2.1.length ∧ Below w.heap.size w w'
theorem two_R {r : Int × List ByteArray × List ByteArray × Int} {w w' : World} {e : Ending} {ok1 ok2 : Nat → Prop} {v1 v2 : Value} (he : e = .returned (.tuple #[.agg #[.int .i64 r.1, v1, v2], .int .i64 r.2.2.2])) (h1 : Kd.R Kd.string 9 w' w.heap.size ok1 v1 r.2.1) (h2 : Kd.R Kd.string 9 w' w.heap.size ok2 v2 r.2.2.1) (hb : Below w.heap.size w w') : TwoPost r w e w' := by
  obtain ⟨A1, c1, rfl⟩ := Kd.R_slice h1
  obtain ⟨A2, c2, rfl⟩ := Kd.R_slice h2
  exact ⟨A1, c1, A2, c2, he, Kd.R_V (Kd.R_mono (Kd.R_bound h1) (fun _ hk => hk.2.1)), Kd.R_V (Kd.R_mono (Kd.R_bound h2) (fun _ hk => hk.2.1)), Room.of_R h1 (Nat.le_refl _), Room.of_R h2 (Nat.le_refl _), hb⟩
theorem two_VW {r : Int × List ByteArray × List ByteArray × Int} {w w' : World} {e : Ending} {v1 v2 : Value} (he : e = .returned (.tuple #[.agg #[.int .i64 r.1, v1, v2], .int .i64 r.2.2.2])) (h1 : VW Kd.string 9 w' w.heap.size (fun k => w.heap.size ≤ k) v1 r.2.1) (h2 : VW Kd.string 9 w' w.heap.size (fun k => w.heap.size ≤ k) v2 r.2.2.1) (hb : Below w.heap.size w w') : TwoPost r w e w' := by
  obtain ⟨A1, c1, rfl⟩ := VW_slice h1
  obtain ⟨A2, c2, rfl⟩ := VW_slice h2
  exact ⟨A1, c1, A2, c2, he, VW_V h1, VW_V h2, Room.of_VW h1 (Nat.le_refl _), Room.of_VW h2 (Nat.le_refl _), hb⟩

section
variable (w : World) (v : Int) (A B : Option Addr) (c d : Nat) (l m : List ByteArray) (hl : Kd.C Kd.string w A l.length l) (hc : l.length ≤ c) (hm : Kd.C Kd.string w B m.length m) (hd : m.length ≤ d)
include hl hc hm hd
theorem diff_law (hv : v ≤ 9223372036854775807) (hw : m.length * 16 ≤ 281474976710656) : Calls Try.prog 21 #[.agg #[.int .i64 v, .slice A l.length c], .slice B m.length d] w (TwoPost (diffS v l m) w) :=
  (XB.risk_Diff.calls 1 v A c l B d m _ _ _ _ w hl hc hm hd (PC.diff_total v l m hv hw 0)).mono fun _ _ ⟨_, _, he, h1, h2, hb⟩ => two_R (r := diffS v l m) he h1 h2 hb
theorem refdiff_law (hv : v ≤ 9223372036854775807) : Calls Try.prog 23 #[.agg #[.int .i64 v, .slice A l.length c], .slice B m.length d] w (TwoPost (diffS v l m) w) :=
  (XS.fareboxref13_Diff.calls (m.length + m.length + 1 + 1) v A c l B d m _ _ _ _ w hl hc hm hd (PT.diff_total v l m hv hm.2.1 (Nat.lt_succ_self _))).mono fun _ _ ⟨_, _, he, h1, h2, hb⟩ => two_R (r := diffS v l m) he h1 h2 hb
theorem samedelta_law (A' B' : Option Addr) (c' d' : Nat) (hl' : Kd.C Kd.string w A' l.length l) (hc' : l.length ≤ c') (hm' : Kd.C Kd.string w B' m.length m) (hd' : m.length ≤ d') :
    Calls Try.prog 24 #[.agg #[.int .i64 v, .slice A l.length c, .slice B m.length d], .agg #[.int .i64 v, .slice A' l.length c', .slice B' m.length d']] w fun e w' => e = .returned (.bool true) ∧ Below w.heap.size w w' :=
  XB.fareboxref13_SameDelta.calls v A c l B d m v A' c' l B' d' m true w hl hc hm hd hl' hc' hm' hd' (by
    unfold XB.fareboxref13_SameDelta.f XB.fareboxref13_SameTokens.f
    rw [(sameS_iff l l).2 rfl, (sameS_iff m m).2 rfl]
    simp)
theorem join_law (u : Int) (A' B' : Option Addr) (c' d' : Nat) (l' m' : List ByteArray) (hl' : Kd.C Kd.string w A' l'.length l') (hc' : l'.length ≤ c') (hm' : Kd.C Kd.string w B' m'.length m') (hd' : m'.length ≤ d') :
    Calls Try.prog 25 #[.agg #[.int .i64 v, .slice A l.length c, .slice B m.length d], .agg #[.int .i64 u, .slice A' l'.length c', .slice B' m'.length d']] w (TwoPost (joinS v l m u l' m') w) :=
  (XJ.risk_Join.calls 1 v A c l B d m u A' c' l' B' d' m' _ _ _ _ w hl hc hm hd hl' hc' hm' hd' (PF.join_total v l m u l' m' 0)).mono fun _ _ ⟨_, _, he, h1, h2, hb⟩ => two_VW (r := joinS v l m u l' m') he h1 h2 hb
theorem refjoin_law (u : Int) (A' B' : Option Addr) (c' d' : Nat) (l' m' : List ByteArray) (hl' : Kd.C Kd.string w A' l'.length l') (hc' : l'.length ≤ c') (hm' : Kd.C Kd.string w B' m'.length m') (hd' : m'.length ≤ d') :
    Calls Try.prog 26 #[.agg #[.int .i64 v, .slice A l.length c, .slice B m.length d], .agg #[.int .i64 u, .slice A' l'.length c', .slice B' m'.length d']] w (TwoPost (joinS v l m u l' m') w) :=
  (XS.fareboxref13_Join.calls (l.length + m.length + l'.length + m'.length + 10 + 1) v A c l B d m u A' c' l' B' d' m' _ _ _ _ w hl hc hm hd hl' hc' hm' hd' (PU.join_total v l m u l' m' _ (Nat.lt_succ_self _))).mono fun _ _ ⟨_, _, he, h1, h2, hb⟩ => two_R (r := joinS v l m u l' m') he h1 h2 hb
end
theorem diff_few (v : Int) (l m : List ByteArray) : (diffS v l m).2.1.length ≤ 1000 ∧ (diffS v l m).2.2.1.length ≤ 1000 := by
  by_cases h : (diffS v l m).2.2.2 = 0
  · obtain ⟨hL, he⟩ := diff_ok h
    rw [he]
    exact ⟨Nat.le_trans (less_len _ _) hL.few, Nat.le_trans (less_len _ _) hL.good.len⟩
  · obtain ⟨_, h2, h3⟩ := diff_no h
    rw [h2, h3]
    simp
theorem join_few (a0 : Int) (l1 l2 : List ByteArray) (b0 : Int) (m1 m2 : List ByteArray) : (joinS a0 l1 l2 b0 m1 m2).2.1.length ≤ 1000 ∧ (joinS a0 l1 l2 b0 m1 m2).2.2.1.length ≤ 1000 := by
  unfold joinS
  repeat' split
  all_goals first | (simp; done) | (simp; omega)
end Go.Proofs.Ytodonkgheffibaa.Hand
