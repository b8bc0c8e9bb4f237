/- fareboxlaw22.does by hand: a call on both books: the same answers. -/
import Derived.Test.YtbfpggghcdfghaaHandQ
namespace Go.Proofs.Ytbfpggghcdfghaa.Hand
open Go.RowKit Go.Maps Go.Sort Go.Proofs.YtbfpggghcdfghaaW.PrintWords Go.Proofs.Ytbfpggghcdfghaa.PA

/-- Both books: debt's at p and b, the document's at r. -/
structure Both (w0 : World) (p b r base : Nat) (m n : List Acct) (w : World) : Prop where
  bk : Bk w p b m
  rb : Rb w r base n
  bel : Below w0.heap.size w0 w
  lb : w0.heap.size ≤ b
  lr : w0.heap.size ≤ r
  ls : w0.heap.size ≤ base
  lw : base ≤ w.heap.size
section
variable {w0 w w' : World} {p b r base : Nat} {m n m' n' : List Acct}
theorem Both.none (h : Both w0 p b r base m n w) (hg : w.grownBy w' none) : Both w0 p b r base m n w' :=
  ⟨h.bk.kept hg (by simp) (by simp), h.rb.kept hg, below_none h.bel hg h.bel.size, h.lb, h.lr, h.ls, Nat.le_trans h.lw hg.size⟩
theorem Both.map (h : Both w0 p b r base m n w) (hB : Bk w' p b m') (hg : w.grownBy w' (some b)) : Both w0 p b r base m' n w' :=
  ⟨hB, h.rb.map h.bk hg, below_grown h.bel hg h.lb h.bel.size, h.lb, h.lr, h.ls, Nat.le_trans h.lw hg.size⟩
theorem Both.ref (h : Both w0 p b r base m n w) (hB : Rb w' r base n') (hg : Rk w w' r base) : Both w0 p b r base m n' w' :=
  ⟨hg.bk h.bk h.rb, hB, Rk.below h.bel hg h.lr h.ls h.bel.size, h.lb, h.lr, h.ls, Nat.le_trans h.lw hg.size⟩
theorem Both.drewN (h : Both w0 p b r base m n w) (k : Nat) : Both w0 p b r base m n (w.drewN k) := h.none (grown_drewN _ _ _)
end
def doesS (m : List Acct) (o : OpT) : List Acct := if o.1 = 0 then (setS m o.2.2 o.2.1).2.2.2 else if o.1 = 1 then (payS m o.2.2 o.2.1).2 else m
theorem fine_does {m : List Acct} (h : Fine m) (o : OpT) : Fine (doesS m o) := by
  unfold doesS
  split
  · exact fine_set h _ _
  · split
    · exact fine_pay h _ _
    · exact h
/-- A block of another type than the rows, not debt's map, not the document's own cell: it stays. -/
theorem Blk.rk {w w' : World} {g r base : Nat} {t : TypeId} {cs : Array Value} (h : Blk w g t cs) (hk : Rk w w' r base) (hr : g ≠ r) (ht : t ≠ 33) : Blk w' g t cs := by
  refine (hk.block g h.lt hr (fun cells fr hc => ?_)).trans h
  unfold Blk at h
  rw [h] at hc
  injection hc with hc
  injection hc with _ h2
  exact absurd h2 ht
theorem Blk.drewN' {w : World} {g : Nat} {t : TypeId} {cs : Array Value} (h : Blk w g t cs) (n : Nat) : Blk (w.drewN n) g t cs := h
theorem seven {w w' : World} {g1 g2 g : Nat} {tk xs : ByteArray} {ch pa xn d : Int} (hg : w.grownBy w' none) (ka : Blk w g1 33 #[.string tk, .int .i64 ch, .int .i64 pa]) (kc : Blk w g2 33 #[.string tk, .int .i64 ch, .int .i64 pa]) (ko : Blk w g 27 #[.int .i64 d, .int .i64 xn, .string xs]) :
    w'.cell? ⟨g1, 0, none⟩ = some (.string tk) ∧ w'.cell? ⟨g1, 1, none⟩ = some (.int .i64 ch) ∧ w'.cell? ⟨g1, 2, none⟩ = some (.int .i64 pa) ∧ w'.cell? ⟨g2, 0, none⟩ = some (.string tk) ∧ w'.cell? ⟨g2, 1, none⟩ = some (.int .i64 ch) ∧ w'.cell? ⟨g2, 2, none⟩ = some (.int .i64 pa) ∧ w'.cell? ⟨g, 2, none⟩ = some (.string xs) :=
  ⟨(ka.grown hg (by simp)).cell 0, (ka.grown hg (by simp)).cell 1, (ka.grown hg (by simp)).cell 2, (kc.grown hg (by simp)).cell 0, (kc.grown hg (by simp)).cell 1, (kc.grown hg (by simp)).cell 2, (ko.grown hg (by simp)).cell 2⟩
theorem sametok_l0 (l : List ByteArray) (hn : l.length ≤ 9223372036854775807) (d : Nat) : ∀ (K i : Nat), i + d = l.length → d < K → XA.fareboxref13_SameTokens.l0 K l l (i : Int) = some true := by
  induction d with
  | zero =>
    intro K i hi hK
    obtain ⟨K, rfl⟩ : ∃ m, K = m + 1 := ⟨K - 1, by omega⟩
    simp only [XA.fareboxref13_SameTokens.l0]
    rw [if_neg (by omega)]
  | succ d ih =>
    intro K i hi hK
    obtain ⟨K, rfl⟩ : ∃ m, K = m + 1 := ⟨K - 1, by omega⟩
    simp only [XA.fareboxref13_SameTokens.l0]
    rw [if_pos (by omega), if_pos (by omega), if_pos (by omega), if_pos trivial, wrap_ok (n := l.length) (by omega) (by omega) (by omega)]
    exact ih K (i + 1) (by omega) (by omega)
theorem sametok_total (l : List ByteArray) (hn : l.length ≤ 9223372036854775807) : XA.fareboxref13_SameTokens.f (l.length + 1) l l = some true := by
  unfold XA.fareboxref13_SameTokens.f
  rw [if_pos rfl]
  exact sametok_l0 l hn l.length (l.length + 1) 0 (by simp) (by omega)
/-- A block of texts (or of calls) that is none of theirs is written: both stay. -/
theorem Both.other {w0 w w' : World} {p b r base : Nat} {m n : List Acct} (h : Both w0 p b r base m n w) {g : Nat} {cells : Array Value} {t : TypeId} (hc : w.heap[g]? = some (.cells cells t (0, 0))) (h1 : t ≠ 57) (h2 : t ≠ 52) (h3 : t ≠ 33) (hg : w.grownBy w' (some g)) (hw : w0.heap.size ≤ g) : Both w0 p b r base m n w' := by
  have np : p ≠ g := by
    rintro rfl
    have e1 := h.bk.blk
    unfold Blk at e1
    rw [e1] at hc
    injection hc with hc
    injection hc with _ e2
    exact h1 e2.symm
  have nb : b ≠ g := by
    rintro rfl
    obtain ⟨es, clock, hb, rest⟩ := h.bk.own
    rw [hb] at hc
    injection hc with hc
    cases hc
  obtain ⟨v, hr1, hr2⟩ := h.rb
  have nr : r ≠ g := by
    rintro rfl
    unfold Blk at hr1
    rw [hr1] at hc
    injection hc with hc
    injection hc with _ e2
    exact h2 e2.symm
  have nv : v.ownBlock ≠ some g := by
    intro e
    obtain ⟨cells', hc'⟩ := own_typed hr2 g e
    rw [hc'] at hc
    injection hc with hc
    injection hc with _ e2
    exact h3 e2.symm
  exact ⟨h.bk.kept hg (by simpa using np) (by simpa using nb), ⟨v, hr1.grown hg (by simpa using nr), hr2.kept hg (.inr nv)⟩, h.bel.grown hg h.bel.size (fun k hk => by injection hk with hk; subst hk; exact hw), h.lb, h.lr, h.ls, Nat.le_trans h.lw hg.size⟩
theorem sametok_any (A B : Option Addr) (c d : Nat) (l : List ByteArray) (w : World) (hl : Kd.string.C w A l.length l) (hc : l.length ≤ c) (hm : Kd.string.C w B l.length l) (hd : l.length ≤ d) :
    Calls Try.prog 29 #[.slice A l.length c, .slice B l.length d] w fun e w' => e = .returned (.bool true) ∧ w.grownBy w' none := by
  refine (XA.fareboxref13_SameTokens.calls (l.length + 1) A c l B d l true w hl hc hm hd (sametok_total l hl.2.1)).mono ?_
  rintro e w' ⟨he, ⟨n, rfl⟩⟩
  exact ⟨he, grown_drewN _ _ _⟩
/-- What a spoiled row of texts still is. -/
structure Spoil (w0 : World) (p b r base : Nat) (m : List Acct) (g0 : Nat) (xn : Int) (xs : ByteArray) (v : Value) (n : Nat) (bs : Nat) (w : World) : Prop where
  both : Both w0 p b r base m m w
  row : ∃ ys, w.ownsRow bs 9 1 v n ys
  op : Blk w g0 27 #[.int .i64 3, .int .i64 xn, .string xs]
  ge : w0.heap.size ≤ bs
  old : g0 < bs
  sz : bs ≤ w.heap.size
theorem Spoil.write {w0 : World} {p b r base : Nat} {m : List Acct} {g0 : Nat} {xn : Int} {xs : ByteArray} {ad : Addr} {c n bs : Nat} {w : World} (h : Spoil w0 p b r base m g0 xn xs (.slice (some ad) n c) n bs w) (k : Nat) (_ : k < n) (u : Value) :
    w.frozen? (ad.add k) = false ∧ (∃ u0, w.cell? (ad.add k) = some u0) ∧ Spoil w0 p b r base m g0 xn xs (.slice (some ad) n c) n bs (w.setCell (ad.add k) u) := by
  obtain ⟨ys, hrow⟩ := h.row
  have h0 := hrow
  rcases hrow.2 with ⟨h', _⟩ | ⟨g, cap, cur, h', hb, hg, hcap, hmx, hsz, htk⟩
  · cases h'
  · simp only [Value.slice.injEq, Option.some.injEq] at h'
    obtain ⟨h1, _, h3⟩ := h'
    subst h1
    rw [add_plain]
    obtain ⟨s1, s2⟩ := World.ownsRow.stored h0 k u
    have hge : w0.heap.size ≤ g := Nat.le_trans h.ge hb
    have hgo : g0 ≠ g := by have := h.old; omega
    refine ⟨h0.frozenAt _, ?_, ?_⟩
    · rw [cell_of_row w g k cur 9 (0, 0) hg]
      exact ⟨cur[k]'(by omega), Array.getElem?_eq_getElem _⟩
    · exact ⟨h.both.other hg (by decide) (by decide) (by decide) s2 hge, ⟨_, s1⟩, h.op.far (by simpa using hgo) _, h.ge, h.old, by simpa [World.setCell] using h.sz⟩
theorem spoil_app {w0 : World} {p b r base : Nat} {m : List Acct} {g0 : Nat} {xn : Int} {xs : ByteArray} {v : Value} {n bs : Nat} {w w' : World} {u : Value} {ys : List Value} (h : Spoil w0 p b r base m g0 xn xs v n bs w) (hrow : w.ownsRow bs 9 1 v n ys)
    (hg : (w.alloc (.cells #[u] 9)).grownBy w' v.ownBlock) : Both w0 p b r base m m w' ∧ Blk w' g0 27 #[.int .i64 3, .int .i64 xn, .string xs] := by
  have h1 := h.both.none (World.grownBy_alloc w (.cells #[u] 9) none)
  have h2 := h.op.alloc (.cells #[u] 9)
  cases hv : v.ownBlock with
  | none =>
    rw [hv] at hg
    exact ⟨h1.none hg, h2.grown hg (by simp)⟩
  | some k =>
    rw [hv] at hg
    obtain ⟨cells, hc⟩ := own_typed (hrow.alloc (.cells #[u] 9)) k hv
    have hb := own_base hrow k hv
    have ho := h.old
    exact ⟨h1.other hc (by decide) (by decide) (by decide) hg (Nat.le_trans h.ge hb), h2.grown hg (by simp; omega)⟩
/-- A row of accounts of the call's own that is written over. -/
structure Spoil2 (W : World) (v : Value) (n : Nat) (w : World) : Prop where
  bel : Below W.heap.size W w
  row : ∃ ys, w.ownsRow W.heap.size 33 3 v n ys
theorem Spoil2.write {W w : World} {ad : Addr} {c n : Nat} (h : Spoil2 W (.slice (some ad) n c) n w) (k : Nat) (hk : k < n) (u : Value) :
    w.frozen? ⟨(ad.add (k * 3)).block, (ad.add (k * 3)).off + 2, none⟩ = false ∧ (∃ u0, w.cell? ⟨(ad.add (k * 3)).block, (ad.add (k * 3)).off + 2, none⟩ = some u0) ∧ Spoil2 W (.slice (some ad) n c) n (w.setCell ⟨(ad.add (k * 3)).block, (ad.add (k * 3)).off + 2, none⟩ u) := by
  obtain ⟨ys, hrow⟩ := h.row
  have h0 := hrow
  rcases hrow.2 with ⟨h', _⟩ | ⟨g, cap, cur, h', hb, hg, hcap, hmx, hsz, htk⟩
  · cases h'
  · simp only [Value.slice.injEq, Option.some.injEq] at h'
    obtain ⟨h1, _, h3⟩ := h'
    subst h1
    have e : (⟨g, 0, none⟩ : Addr).add (k * 3) = ⟨g, k * 3, none⟩ := add_plain _ _
    rw [e]
    obtain ⟨s1, s2⟩ := World.ownsRow.stored h0 (k * 3 + 2) u
    refine ⟨h0.frozenAt _, ?_, ⟨h.bel.setCell hb _, ⟨_, s1⟩⟩⟩
    rw [cell_of_row w g (k * 3 + 2) cur 33 (0, 0) hg]
    exact ⟨cur[k * 3 + 2]'(by omega), Array.getElem?_eq_getElem _⟩
theorem spoil2_app {W w w' : World} {v : Value} {n : Nat} {a b c : Value} {ys : List Value} (h : Spoil2 W v n w) (hrow : w.ownsRow W.heap.size 33 3 v n ys) (hg : (w.alloc (.cells #[a, b, c] 33)).grownBy w' v.ownBlock) : Below W.heap.size W w' :=
  (h.bel.alloc h.bel.size _).grown hg (Nat.le_trans h.bel.size (by simp)) (fun k hk => own_base hrow k hk)
theorem grown_of_below {W w : World} (h : Below W.heap.size W w) : W.grownBy w none := ⟨h.os, h.tape, h.output, h.size, fun k hk _ => h.block k hk⟩
def DoesPost (w0 : World) (p b r base : Nat) (m : List Acct) (e : Ending) (w' : World) : Prop := e = .returned (.bool true) ∧ Both w0 p b r base m m w'
set_option maxHeartbeats 16000000 in
set_option maxRecDepth 20000 in
theorem does_any (w0 : World) (p b r base : Nat) (m : List Acct) (o : OpT) (w : World) (hB : Both w0 p b r base m m w) (hF : Fine m) (hd : -9223372036854775808 ≤ o.1 ∧ o.1 ≤ 9223372036854775807) (hn : -9223372036854775808 ≤ o.2.1 ∧ o.2.1 ≤ 9223372036854775807) (ht : o.2.2.size ≤ maxLen) :
    Calls Try.prog 19 #[.pointer (some ⟨p, 0, none⟩), .pointer (some ⟨r, 0, none⟩), .agg #[.int .i64 o.1, .int .i64 o.2.1, .string o.2.2]] w (DoesPost w0 p b r base (doesS m o)) := by
  obtain ⟨xd, xn, xs⟩ := o
  simp only at hn ht hd
  have HF := Lib.hid hF
  have HN := Lib.hid hn
  have HT := Lib.hid ht
  obtain ⟨g, hg⟩ : ∃ g, g = w.heap.size := ⟨_, rfl⟩
  obtain ⟨W, hW⟩ : ∃ W, W = w.alloc (.cells #[.int .i64 xd, .int .i64 xn, .string xs] 27) := ⟨_, rfl⟩
  have KO : Blk W g 27 #[.int .i64 xd, .int .i64 xn, .string xs] := by rw [hW, hg]; exact Blk.new _ _ _
  have HB := Lib.hid (show Both w0 p b r base m m W by rw [hW]; exact hB.none (World.grownBy_alloc _ _ _))
  have gb := Lib.hid (show g ≠ b by have := hB.bk.ltb; omega)
  have gr := Lib.hid (show g ≠ r by have := hB.rb.lt; omega)
  have HW := Lib.hid hW
  have HG := Lib.hid hg
  have HB0 := Lib.hid (show w0.heap.size ≤ W.heap.size from HB.out.bel.size)
  have HG0 := Lib.hid (show g < W.heap.size from KO.lt)
  clear hB hF hn ht hd hW hg
  by_cases h0 : xd = 0
  · subst h0
    have HE := Lib.hid (show doesS m (0, xn, xs) = (setS m xs xn).2.2.2 by unfold doesS; rw [if_pos rfl])
    go_enter Try.func19, Try.ntmps19
    go_wp2_with fail
    rw [← HW.out, ← HG.out]
    clear HW HG
    refine (set_any p b m xs xn W HB.out.bk HF.out HT.out).mono ?_
    rintro e w1 ⟨rfl, hB1, hg1⟩
    replace KO := KO.grown hg1 (by simpa using gb.out)
    replace HB := Lib.hid (HB.out.map hB1 hg1)
    have y1 := KO.cell 1
    have y2 := KO.cell 2
    simp at y1 y2
    clear hB1 hg1
    go_wp2_with fail
    refine (refset_any r base m xs xn w1 HB.out.rb HF.out HB.out.lw HN.out).mono ?_
    rintro e w2 ⟨rfl, hB2, hk2⟩
    replace HB := Lib.hid (HB.out.ref hB2 hk2)
    clear hB2 hk2 y1 y2
    go_wp2
    go_ret
    exact ⟨rfl, by rw [HE.out]; exact HB.out⟩
  · by_cases h1 : xd = 1
    · subst h1
      have HE := Lib.hid (show doesS m (1, xn, xs) = (payS m xs xn).2 by unfold doesS; rw [if_neg (show ¬ (1 : Int) = 0 by decide), if_pos rfl])
      clear h0
      go_enter Try.func19, Try.ntmps19
      go_wp2_with fail
      rw [← HW.out, ← HG.out]
      clear HW HG
      refine (pay_any p b m xs xn W HB.out.bk HF.out HN.out HT.out).mono ?_
      rintro e w1 ⟨rfl, hB1, hg1⟩
      replace KO := KO.grown hg1 (by simpa using gb.out)
      replace HB := Lib.hid (HB.out.map hB1 hg1)
      have y1 := KO.cell 1
      have y2 := KO.cell 2
      simp at y1 y2
      clear hB1 hg1
      go_wp2_with fail
      refine (refpay_any r base m xs xn w1 HB.out.rb HF.out HN.out).mono ?_
      rintro e w2 ⟨rfl, hB2, hk2⟩
      replace HB := Lib.hid (HB.out.ref hB2 hk2)
      clear hB2 hk2 y1 y2
      go_wp2
      go_ret
      exact ⟨rfl, by rw [HE.out]; exact HB.out⟩
    · have HE := Lib.hid (show doesS m (xd, xn, xs) = m by unfold doesS; rw [if_neg h0, if_neg h1])
      have e0 : (xd == 0) = false := by simpa using h0
      have e1 : (xd == 1) = false := by simpa using h1
      by_cases h2 : xd = 2
      · subst h2
        clear h0 h1 e0 e1
        go_enter Try.func19, Try.ntmps19
        go_wp2_with fail
        rw [← HW.out, ← HG.out]
        clear HW HG
        refine (account_any2 p b m xs W HB.out.bk HT.out).mono ?_
        rintro e w1 ⟨rfl, hg1⟩
        replace KO := KO.grown hg1 (by simp)
        replace HB := Lib.hid (HB.out.none hg1)
        obtain ⟨tk, htk⟩ : ∃ x, x = tokS m xs := ⟨_, rfl⟩
        obtain ⟨ch, hch⟩ : ∃ x, x = chS m xs := ⟨_, rfl⟩
        obtain ⟨pa, hpa⟩ : ∃ x, x = paS m xs := ⟨_, rfl⟩
        obtain ⟨ii, hii⟩ : ∃ x, x = isS m xs := ⟨_, rfl⟩
        rw [← htk, ← hch, ← hpa, ← hii]
        have HV := Lib.hid (show tk = tokS m xs ∧ ch = chS m xs ∧ pa = paS m xs ∧ ii = isS m xs from ⟨htk, hch, hpa, hii⟩)
        obtain ⟨g1, hg1'⟩ : ∃ g, g = w1.heap.size := ⟨_, rfl⟩
        obtain ⟨W1, hW1⟩ : ∃ W, W = w1.alloc (.cells #[.string tk, .int .i64 ch, .int .i64 pa] 33) := ⟨_, rfl⟩
        have KA : Blk W1 g1 33 #[.string tk, .int .i64 ch, .int .i64 pa] := by rw [hW1, hg1']; exact Blk.new _ _ _
        replace KO : Blk W1 g 27 #[.int .i64 2, .int .i64 xn, .string xs] := by rw [hW1]; exact KO.alloc _
        replace HB := Lib.hid (show Both w0 p b r base m m W1 by rw [hW1]; exact HB.out.none (World.grownBy_alloc _ _ _))
        have y2 : ∀ o, (w1.alloc o).cell? ⟨g, 2, none⟩ = some (.string xs) := by
          have hb2 : Blk w1 g 27 #[.int .i64 2, .int .i64 xn, .string xs] := by
            have := KO
            rw [hW1] at this
            unfold Blk at this ⊢
            rwa [Below.heap_alloc w1 _ g (by have := HG0.out; have := hg1.size; omega)] at this
          exact fun o => (hb2.alloc o).cell 2
        have HW1 := Lib.hid hW1
        have HG1 := Lib.hid hg1'
        clear htk hch hpa hii hg1 hW1 hg1'
        go_wp2_with fail
        rw [← HW1.out, ← HG1.out]
        clear HW1 HG1 y2
        refine (refaccount_any r base m xs W1 HB.out.rb HF.out.rise).mono ?_
        unfold AcctPost
        rw [← HV.out.1, ← HV.out.2.1, ← HV.out.2.2.1, ← HV.out.2.2.2]
        rintro e w2 ⟨rfl, hg2⟩
        obtain ⟨g2, hg2'⟩ : ∃ g, g = w2.heap.size := ⟨_, rfl⟩
        obtain ⟨W2, hW2⟩ : ∃ W, W = w2.alloc (.cells #[.string tk, .int .i64 ch, .int .i64 pa] 33) := ⟨_, rfl⟩
        have KC : Blk W2 g2 33 #[.string tk, .int .i64 ch, .int .i64 pa] := by rw [hW2, hg2']; exact Blk.new _ _ _
        replace KO : Blk W2 g 27 #[.int .i64 2, .int .i64 xn, .string xs] := by rw [hW2]; exact (KO.grown hg2 (by simp)).alloc _
        replace KA : Blk W2 g1 33 #[.string tk, .int .i64 ch, .int .i64 pa] := by rw [hW2]; exact (KA.grown hg2 (by simp)).alloc _
        replace HB := Lib.hid (show Both w0 p b r base m m W2 by rw [hW2]; exact (HB.out.none hg2).none (World.grownBy_alloc _ _ _))
        have HW2 := Lib.hid hW2
        have HG2 := Lib.hid hg2'
        clear hg2 hW2 hg2'
        go_wp2_with fail
        rw [← HW2.out, ← HG2.out]
        clear HW2 HG2
        have hdebt : chS m xs - paS m xs = ch - pa := by rw [HV.out.2.1, HV.out.2.2.1]
        have q0 := KA.cell 0
        have q1 := KA.cell 1
        have q2 := KA.cell 2
        have q3 := KC.cell 0
        have q4 := KC.cell 1
        have q5 := KC.cell 2
        have q6 := KO.cell 2
        simp at q0 q1 q2 q3 q4 q5 q6
        have HBn : ∀ n, Both w0 p b r base m m (W2.drewN n) := fun n => HB.out.drewN n
        have HD := Lib.hid hdebt
        clear hdebt
        go_region_held3 (fun w' => w'.cell? ⟨g1, 0, none⟩ = some (.string tk) ∧ w'.cell? ⟨g1, 1, none⟩ = some (.int .i64 ch) ∧ w'.cell? ⟨g1, 2, none⟩ = some (.int .i64 pa) ∧ w'.cell? ⟨g2, 0, none⟩ = some (.string tk) ∧ w'.cell? ⟨g2, 1, none⟩ = some (.int .i64 ch) ∧ w'.cell? ⟨g2, 2, none⟩ = some (.int .i64 pa) ∧ w'.cell? ⟨g, 2, none⟩ = some (.string xs)) (first | exact ⟨q0, q1, q2, q3, q4, q5, q6⟩ | exact z1 | exact z2)
          (first
            | (go_at_call 12; refine (debt_any p b m xs _ (HBn _).bk HF.out HT.out).mono ?_; rw [HD.out]; rintro e w3 ⟨rfl, hg3⟩; have z1 := seven hg3 (Blk.drewN' KA _) (Blk.drewN' KC _) (Blk.drewN' KO _); have HB3 := (HBn _).none hg3; have KA3 := (Blk.drewN' KA _).grown hg3 (by simp); have KC3 := (Blk.drewN' KC _).grown hg3 (by simp); have KO3 := (Blk.drewN' KO _).grown hg3 (by simp))
            | (go_at_call 28; refine (refdebt_any r base m xs _ HB3.rb HF.out).mono ?_; rw [HD.out]; rintro e w4 ⟨rfl, hg4⟩; have z2 := seven hg4 KA3 KC3 KO3; have HB4 := Lib.hid (HB3.none hg4)))
        all_goals (go_wp2; go_ret; exact ⟨rfl, by rw [HE.out]; exact HB4.out⟩)
      · have e2 : (xd == 2) = false := by simpa using h2
        by_cases h3 : xd = 3
        · subst h3
          clear h0 h1 h2 e0 e1 e2
          go_enter Try.func19, Try.ntmps19
          go_wp2_with fail
          rw [← HW.out, ← HG.out]
          clear HW HG
          refine (listed_any p b m xn W HB.out.bk HF.out).mono ?_
          rintro e w1 ⟨v1, rfl, hr1, hg1⟩
          obtain ⟨L, hL⟩ : ∃ x, x = listS m xn := ⟨_, rfl⟩
          rw [← hL] at hr1
          have HL := Lib.hid hL
          have hLl : L.length ≤ 1000 := by rw [hL]; exact Nat.le_trans (list_len _ _) HF.out.few
          replace KO := KO.grown hg1 (by simp)
          replace HB := Lib.hid (HB.out.none hg1)
          obtain ⟨A1, c1, rfl, hc1, hC1⟩ := C_strings hr1
          have y1 := KO.cell 1
          simp at y1
          have HW0 := Lib.hid (show W.heap.size ≤ w1.heap.size from hg1.size)
          clear hL hg1
          go_wp2_with fail
          refine (reflisted_any r base m xn w1 HB.out.rb HF.out).mono ?_
          rintro e w2 ⟨v2, rfl, hr2, hg2⟩
          rw [← HL.out] at hr2
          replace KO := KO.grown hg2 (by simp)
          replace HB := Lib.hid (HB.out.none hg2)
          have hC1' : Kd.string.C w2 A1 L.length L := Kd.C_below hC1 ⟨hg2.os, hg2.tape, hg2.output, hg2.size, fun j hj => hg2.block j hj (by simp)⟩
          replace hr1 := own_step hr1 hg2
          have hz12 := hg2.size
          obtain ⟨A2, c2, rfl, hc2, hC2⟩ := C_strings hr2
          clear hg2 y1 hC1 hr2
          go_wp2_with fail
          refine (sametok_any A1 A2 c1 c2 L w2 hC1' hc1 hC2 hc2).mono ?_
          rintro e w3 ⟨rfl, hg3⟩
          replace KO := KO.grown hg3 (by simp)
          replace HB := Lib.hid (HB.out.none hg3)
          replace hr1 := own_step hr1 hg3
          have HS := Lib.hid (show Spoil w0 p b r base m g xn xs (.slice A1 L.length c1) L.length W.heap.size w3 from ⟨HB.out, ⟨_, hr1⟩, KO, HB0.out, HG0.out, Nat.le_trans HW0.out (Nat.le_trans hz12 hg3.size)⟩)
          clear hg3 hC1' hC2 hr1 HB KO hc2 hz12
          go_wp2
          go_loopw [20] (fun i wr => ∃ k : Nat, k ≤ L.length ∧ i = .int .i64 k ∧ Spoil w0 p b r base m g xn xs (.slice A1 L.length c1) L.length W.heap.size wr) (fun i _ => L.length - (intOf i).toNat)
          case atStart => exact ⟨0, Nat.zero_le _, rfl, HS.out⟩
          case round =>
            obtain ⟨k, hk, rfl, hR⟩ := hrel
            clear HS
            have HS := Lib.hid hR
            clear hR
            by_cases hlt : k < L.length
            · cases A1 with
              | none =>
                obtain ⟨ys, hro⟩ := HS.out.row
                rcases slice_forms hro with ⟨_, h0, _⟩ | ⟨ad, h0, _⟩
                · omega
                · cases h0
              | some ad =>
                obtain ⟨f1, ⟨u0, f2⟩, f3⟩ := HS.out.write k hlt (.string ⟨#[115, 112, 111, 105, 108, 116]⟩)
                have HS3 := Lib.hid f3
                clear f3
                go_wp2
                refine ⟨⟨k + 1, by omega, by go_num, HS3.out⟩, by simp [intOf]; omega⟩
            · obtain ⟨i0, hi, hz0, hz1, hz2⟩ := info_parts info9s
              obtain ⟨ys, hro⟩ := HS.out.row
              have hz := HS.out.both.bel.size
              have hbs : W.heap.size ≤ wr.heap.size := HS.out.sz
              go_wp2_with (first | (at_builtin; refine wpList_append_own _ rfl _ _ 45 rfl W.heap.size 9 i0 (.string ⟨#[]⟩) 1 16 Try.underlying45 hi hz0 hz1 hz2 rfl (by decide) _ _ _ rfl (hro.alloc _) ⟨wr.heap.size, 0, none⟩ 1 1 [.string ⟨#[109, 111, 114, 101]⟩] rfl rfl (cell_one_new _ _ _) (one_str _) (by unfold maxLen; omega) (by omega) (Nat.le_trans hbs (by simp)) ?_; intro v4 w4 hown4 hg4 _; obtain ⟨B4, cap4, rfl⟩ := own_form hown4; have HB4 := spoil_app HS.out hro hg4))
              obtain ⟨hB4, hO4⟩ := HB4
              have q0 := hO4.cell 1
              simp at q0
              have HBn : ∀ n, Both w0 p b r base m m (w4.drewN n) := fun n => hB4.drewN n
              have HLen := Lib.hid (show L.length + 1 ≥ 1 by omega)
              have hge : ((L.length : Int) + 1) ≥ 1 := by omega
              clear HS hro hown4 hg4 hbs hz
              go_region_held3 (fun w' => w'.cell? ⟨g, 1, none⟩ = some (.int .i64 xn)) (first | exact q0 | exact z1 | exact z2 | exact z3)
                (first
                  | (go_at_call 17; refine (listed_any p b m xn _ (HBn _).bk HF.out).mono ?_; rw [← HL.out]; rintro e w5 ⟨v5, rfl, hr5, hg5⟩; have HB5 := (HBn _).none hg5; have hO5 := (Blk.drewN' hO4 _).grown hg5 (by simp); have z1 : w5.cell? ⟨g, 1, none⟩ = some (.int .i64 xn) := hO5.cell 1; obtain ⟨A5, c5, rfl, hc5, hC5⟩ := C_strings hr5)
                  | (go_at_call 30; refine (reflisted_any r base m xn _ HB5.rb HF.out).mono ?_; rw [← HL.out]; rintro e w6 ⟨v6, rfl, hr6, hg6⟩; have HB6 := HB5.none hg6; have hO6 := hO5.grown hg6 (by simp); have z2 : w6.cell? ⟨g, 1, none⟩ = some (.int .i64 xn) := hO6.cell 1; obtain ⟨A6, c6, rfl, hc6, hC6⟩ := C_strings hr6; have hC5' := Kd.C_below hC5 ⟨hg6.os, hg6.tape, hg6.output, hg6.size, fun j hj => hg6.block j hj (by simp)⟩)
                  | (go_at_call 29; refine (sametok_any A5 A6 c5 c6 L _ hC5' hc5 hC6 hc6).mono ?_; rintro e w7 ⟨rfl, hg7⟩; have z3 : w7.cell? ⟨g, 1, none⟩ = some (.int .i64 xn) := (hO6.grown hg7 (by simp)).cell 1; have HB7 := Lib.hid (HB6.none hg7)))
              all_goals (go_wp2; go_ret; exact ⟨by first | rfl | simp, by rw [HE.out]; exact HB7.out⟩)
        · have e3 : (xd == 3) = false := by simpa using h3
          clear h0 h1 h2 h3
          go_enter Try.func19, Try.ntmps19
          go_wp2_with fail
          rw [← HW.out]
          clear HW HG e0 e1 e2 e3
          refine (accounts_any p b m W HB.out.bk HF.out).mono ?_
          rintro e w1 ⟨v1, rfl, hr1, hg1⟩
          have hml : m.length ≤ 1000 := HF.out.few
          have hb1 : Below W.heap.size W w1 := ⟨hg1.os, hg1.tape, hg1.output, hg1.size, fun j hj => hg1.block j hj (by simp)⟩
          obtain ⟨A1, c1, rfl, hc1, hC1⟩ := C_all (d := kAc) kAc_mk rfl hr1
          obtain ⟨A2, c2, hblk, hc2, hC2, _⟩ := HB.out.rb.opened
          have x0 : w1.cell? ⟨r, 0, none⟩ = some (.slice A2 m.length c2) := (hblk.grown hg1 (by simp)).cell 0
          have HBL := Lib.hid hblk
          have HC2 := Lib.hid hC2
          have hC2' : kAc.C w1 A2 m.length m := Kd.C_below hC2 hb1
          clear hblk hC2 hg1
          go_wp2_with fail
          refine (same_any A1 A2 c1 c2 m w1 hC1 hc1 hC2' hc2).mono ?_
          rintro e w2 ⟨rfl, hg2⟩
          have HS := Lib.hid (show Spoil2 W (.slice A1 m.length c1) m.length w2 from ⟨below_none hb1 hg2 hb1.size, ⟨_, own_step hr1 hg2⟩⟩)
          clear hg2 hC1 hC2' hr1 hb1 x0
          go_wp2
          go_loopw [24] (fun i wr => ∃ k : Nat, k ≤ m.length ∧ i = .int .i64 k ∧ Spoil2 W (.slice A1 m.length c1) m.length wr) (fun i _ => m.length - (intOf i).toNat)
          case atStart => exact ⟨0, Nat.zero_le _, rfl, HS.out⟩
          case round =>
            obtain ⟨k, hk, rfl, hR⟩ := hrel
            clear HS
            have HS := Lib.hid hR
            clear hR
            by_cases hlt : k < m.length
            · cases A1 with
              | none =>
                obtain ⟨ys, hro⟩ := HS.out.row
                rcases slice_forms hro with ⟨_, h0, _⟩ | ⟨ad, h0, _⟩
                · omega
                · cases h0
              | some ad =>
                obtain ⟨f1, ⟨u0, f2⟩, f3⟩ := HS.out.write k hlt (.int .i64 (-5))
                have HS3 := Lib.hid f3
                clear f3
                go_wp2
                refine ⟨⟨k + 1, by omega, by go_num, HS3.out⟩, by simp [intOf]; omega⟩
            · obtain ⟨i0, hi, hz0, hz1, hz2⟩ := info_parts info33
              obtain ⟨ys, hro⟩ := HS.out.row
              have hbs := HS.out.bel.size
              go_wp2_with (first | (at_builtin; refine wpList_append_own _ rfl _ _ 40 rfl W.heap.size 33 i0 (.agg #[.string ⟨#[]⟩, .int .i64 0, .int .i64 0]) 3 32 Try.underlying40 hi hz0 hz1 hz2 rfl (by decide) _ _ _ rfl (hro.alloc _) ⟨wr.heap.size, 0, none⟩ 1 1 (encA (⟨#[]⟩, 0, -6)) rfl rfl (cells_new wr 33 (⟨#[]⟩, 0, -6)) (encA_one _) (by unfold maxLen; omega) (by omega) (Nat.le_trans hbs (by simp)) ?_; intro v4 w4 hown4 hg4 _; obtain ⟨B4, cap4, rfl⟩ := own_form hown4; have HB4 := spoil2_app HS.out hro hg4))
              have hgn := grown_of_below HB4
              have hB4 := HB.out.none hgn
              have q0 : w4.cell? ⟨r, 0, none⟩ = some (.slice A2 m.length c2) := (HBL.out.grown hgn (by simp)).cell 0
              have hC4 : kAc.C w4 A2 m.length m := Kd.C_below HC2.out HB4
              have HBn : ∀ n, Both w0 p b r base m m (w4.drewN n) := fun n => hB4.drewN n
              have hR4 : Blk w4 r 52 #[.slice A2 m.length c2] := HBL.out.grown hgn (by simp)
              have hwm : wrap64 ((m.length : Int) + 1) = (m.length : Int) + 1 := wrap_id (by omega)
              clear HS hro hown4 hg4 hbs HB4 hgn HB
              go_region_held3 (fun w' => w'.cell? ⟨r, 0, none⟩ = some (.slice A2 m.length c2)) (first | exact q0 | exact z1 | exact z2)
                (first
                  | (go_at_call 15; refine (accounts_any p b m _ (HBn _).bk HF.out).mono ?_; rintro e w5 ⟨v5, rfl, hr5, hg5⟩; have HB5 := (HBn _).none hg5; have hR5 := (Blk.drewN' hR4 _).grown hg5 (by simp); have z1 : w5.cell? ⟨r, 0, none⟩ = some (.slice A2 m.length c2) := hR5.cell 0; obtain ⟨A5, c5, rfl, hc5, hC5⟩ := C_all (d := kAc) kAc_mk rfl hr5; have hC6 : kAc.C w5 A2 m.length m := Kd.C_below (Kd.C_drewN hC4 _) ⟨hg5.os, hg5.tape, hg5.output, hg5.size, fun j hj => hg5.block j hj (by simp)⟩)
                  | (go_at_call 14; refine (same_any A5 A2 c5 c2 m _ hC5 hc5 hC6 hc2).mono ?_; rintro e w7 ⟨rfl, hg7⟩; have z2 : w7.cell? ⟨r, 0, none⟩ = some (.slice A2 m.length c2) := (hR5.grown hg7 (by simp)).cell 0; have HB7 := Lib.hid (HB5.none hg7)))
              all_goals (go_wp2; go_ret; exact ⟨by first | rfl | simp, by rw [HE.out]; exact HB7.out⟩)
end Go.Proofs.Ytbfpggghcdfghaa.Hand
