/- fareboxlaw13.RiskLists by hand. -/
import Derived.Test.YtodonkgheffibaaHand8
import Derived.Test.YtodonkgheffibaaPureS
namespace Go.Proofs.Ytodonkgheffibaa.Hand
open Go.RowKit Go.Proofs.YtodonkgheffibaaW.PrintWords Go.Proofs.YtodonkgheffibaaW.PrintMore
open Go.Proofs.Ytodonkgheffibaa Go.Proofs.Ytodonkgheffibaa.PA Go.Proofs.Ytodonkgheffibaa.PB Go.Proofs.Ytodonkgheffibaa.PC

theorem Blk.bar {w w' : World} {g k : Nat} {t : TypeId} {cs : Array Value} (h : Blk w k t cs) (hb : Bar g w w') (hne : k ≠ g) : Blk w' k t cs := (hb.block k h.lt hne).trans h
theorem Blk.set {w : World} {g : Nat} {t : TypeId} {cs : Array Value} (h : Blk w g t cs) (i : Nat) (u : Value) : Blk (w.setCell ⟨g, i, none⟩ u) g t (cs.setIfInBounds i u) := blk_set h i u
theorem Blk.far {w : World} {g k : Nat} {t : TypeId} {cs : Array Value} (h : Blk w k t cs) (i : Nat) (u : Value) (hne : k ≠ g) : Blk (w.setCell ⟨g, i, none⟩ u) k t cs := (Below.heap_setCell w ⟨g, i, none⟩ u k hne).trans h

theorem right_law (v : Int) (A : Option Addr) (c : Nat) (l : List ByteArray) (w : World) (hr : Kd.C Kd.string w A l.length l) (hc : l.length ≤ c) :
    Calls Try.prog 10 #[.agg #[.int .i64 v, .slice A l.length c]] w fun e w' => e = .returned (.int .i64 (rightS v l)) ∧ Below w.heap.size w w' :=
  XB.risk_Right.calls 1 v A c l (rightS v l) w hr hc (PC.right_total v l 0)
theorem has_law (v : Int) (A : Option Addr) (c : Nat) (l : List ByteArray) (s : ByteArray) (w : World) (hr : Kd.C Kd.string w A l.length l) (hc : l.length ≤ c) :
    Calls Try.prog 12 #[.agg #[.int .i64 v, .slice A l.length c], .string s] w fun e w' => e = .returned (.bool (inS l s)) ∧ Below w.heap.size w w' :=
  XB.risk_Has.calls v A c l s _ w hr hc rfl
theorem apply_law (v : Int) (A : Option Addr) (c : Nat) (l : List ByteArray) (dv : Int) (A1 A2 : Option Addr) (c1 c2 : Nat) (l1 l2 : List ByteArray) (w : World) (hr : Kd.C Kd.string w A l.length l) (hc : l.length ≤ c)
    (h1 : Kd.C Kd.string w A1 l1.length l1) (hc1 : l1.length ≤ c1) (h2 : Kd.C Kd.string w A2 l2.length l2) (hc2 : l2.length ≤ c2) (hdv : dv ≤ 9223372036854775807) (ha : l1.length ≤ 8796093022208) :
    Calls Try.prog 13 #[.agg #[.int .i64 v, .slice A l.length c], .agg #[.int .i64 dv, .slice A1 l1.length c1, .slice A2 l2.length c2]] w fun e w' => ∃ v1_ : Value, e = .returned (.tuple #[.agg #[.int .i64 (applyS v l dv l1 l2).1, v1_], .int .i64 (applyS v l dv l1 l2).2.2]) ∧
      VW Kd.string 9 w' w.heap.size (fun k_ => w.heap.size ≤ k_) v1_ (applyS v l dv l1 l2).2.1 ∧ Below w.heap.size w w' :=
  XB.risk_Apply.calls 1 v A c l dv A1 c1 l1 A2 c2 l2 _ _ _ w hr hc h1 hc1 h2 hc2 (PC.apply_total v l dv l1 l2 hdv ha 0)
theorem refapply_law (v : Int) (A : Option Addr) (c : Nat) (l : List ByteArray) (dv : Int) (A1 A2 : Option Addr) (c1 c2 : Nat) (l1 l2 : List ByteArray) (w : World) (hr : Kd.C Kd.string w A l.length l) (hc : l.length ≤ c)
    (h1 : Kd.C Kd.string w A1 l1.length l1) (hc1 : l1.length ≤ c1) (h2 : Kd.C Kd.string w A2 l2.length l2) (hc2 : l2.length ≤ c2) (hdv : dv ≤ 9223372036854775807) :
    Calls Try.prog 15 #[.agg #[.int .i64 v, .slice A l.length c], .agg #[.int .i64 dv, .slice A1 l1.length c1, .slice A2 l2.length c2]] w fun e w' => ∃ v1_ : Value, e = .returned (.tuple #[.agg #[.int .i64 (applyS v l dv l1 l2).1, v1_], .int .i64 (applyS v l dv l1 l2).2.2]) ∧
      Kd.V Kd.string 9 w' w.heap.size (fun k_ => w.heap.size ≤ k_) v1_ (applyS v l dv l1 l2).2.1 ∧ Below w.heap.size w w' :=
  (XS.fareboxref13_Apply.calls (l1.length + l2.length + l1.length + 2 + 1) v A c l dv A1 c1 l1 A2 c2 l2 _ _ _ w hr hc h1 hc1 h2 hc2 (PS.apply_total v l dv l1 l2 hdv (Nat.lt_succ_self _))).mono
    fun _ _ ⟨u, he, hR, hb⟩ => ⟨u, he, Kd.R_V (Kd.R_mono (Kd.R_bound hR) (fun _ hk => hk.2.1)), hb⟩
theorem samelist_law (v : Int) (A B : Option Addr) (c d : Nat) (l : List ByteArray) (w : World) (hr : Kd.C Kd.string w A l.length l) (hc : l.length ≤ c) (hm : Kd.C Kd.string w B l.length l) (hd : l.length ≤ d) :
    Calls Try.prog 16 #[.agg #[.int .i64 v, .slice A l.length c], .agg #[.int .i64 v, .slice B l.length d]] w fun e w' => e = .returned (.bool true) ∧ Below w.heap.size w w' :=
  XB.fareboxref13_SameList.calls v A c l v B d l true w hr hc hm hd (by
    unfold XB.fareboxref13_SameList.f XB.fareboxref13_SameTokens.f
    rw [(sameS_iff l l).2 rfl]
    simp)
theorem refright_law (v : Int) (A : Option Addr) (c : Nat) (l : List ByteArray) (w : World) (hr : Kd.C Kd.string w A l.length l) (hc : l.length ≤ c) :
    Calls Try.prog 18 #[.agg #[.int .i64 v, .slice A l.length c]] w fun e w' => e = .returned (.int .i64 (rightS v l)) ∧ Below w.heap.size w w' :=
  XR.fareboxref13_Right.calls (l.length + 1 + 1) v A c l (rightS v l) w hr hc (PR.right_total v l hr.2.1 (Nat.lt_succ_self _))
theorem reftoken_law (s : ByteArray) (w : World) : Calls Try.prog 19 #[.string s] w fun e w' => e = .returned (.bool (tokB s)) ∧ ∃ n, w' = w.drewN n :=
  (XR.fareboxref13_Token.calls s (tokB s) w (by
    unfold XR.fareboxref13_Token.f
    congr 1
    rw [Bool.eq_iff_iff, beq_iff_eq]
    exact PR.tok_iff s)).mono fun _ _ ⟨h1, h2⟩ => ⟨h1, h2.out⟩
theorem refhas_law (v : Int) (A : Option Addr) (c : Nat) (l : List ByteArray) (s : ByteArray) (w : World) (hr : Kd.C Kd.string w A l.length l) (hc : l.length ≤ c) :
    Calls Try.prog 20 #[.agg #[.int .i64 v, .slice A l.length c], .string s] w fun e w' => e = .returned (.bool (inS l s)) ∧ Below w.heap.size w w' :=
  XB.fareboxref13_Has.calls v A c l s _ w hr hc rfl
end Go.Proofs.Ytodonkgheffibaa.Hand
