/- The walk of DebtPlays. -/
import Derived.Test.YtbfpggghcdfghaaHandS
namespace Go.Proofs.Ytbfpggghcdfghaa.Hand
open Go.RowKit Go.Maps Go.Sort Go.Proofs.YtbfpggghcdfghaaW.PrintWords Go.Proofs.Ytbfpggghcdfghaa.PA

def z7 : Acct := (⟨#[]⟩, 0, -7)
def z8 : Acct := (⟨#[]⟩, 0, -8)
/-- The lent row, k of its accounts spoiled. -/
def sp (l : List Acct) (k : Nat) : List Acct := List.replicate k z8 ++ (l.drop k ++ [z7])
theorem sp_len (l : List Acct) (k : Nat) (hk : k ≤ l.length) : (sp l k).length = l.length + 1 := by simp [sp]; omega
theorem sp_get (l : List Acct) (k : Nat) (hk : k < l.length) : ∃ h : k < (sp l k).length, (sp l k)[k] = l[k] := by
  refine ⟨by rw [sp_len l k (by omega)]; omega, ?_⟩
  simp only [sp]
  rw [List.getElem_append_right (by simp)]
  simp only [List.length_replicate, Nat.sub_self]
  rw [List.getElem_append_left (by rw [List.length_drop]; omega)]
  simp
theorem sp_set (l : List Acct) (k : Nat) (hk : k < l.length) : (sp l k).set k z8 = sp l (k + 1) := by
  unfold sp
  rw [List.set_append_right _ _ (by simp), List.length_replicate, Nat.sub_self, List.drop_eq_getElem_cons hk, List.replicate_succ', List.append_assoc]
  rfl
/-- Three cells written: an account of the row. -/
theorem row_write3 {w : World} {base : Nat} {ad : Addr} {c : Nat} {m : List Acct} (h : w.ownsRow base 33 3 (.slice (some ad) m.length c) m.length (m.flatMap encA)) (K : Nat) (y : Acct) (hK : K < m.length) :
    w.frozen? (ad.add (K * 3)) = false ∧ w.frozen? ⟨(ad.add (K * 3)).block, (ad.add (K * 3)).off + 1, none⟩ = false ∧ w.frozen? ⟨(ad.add (K * 3)).block, (ad.add (K * 3)).off + 2, none⟩ = false ∧
    (((w.setCell (ad.add (K * 3)) (.string y.1)).setCell ⟨(ad.add (K * 3)).block, (ad.add (K * 3)).off + 1, none⟩ (.int .i64 y.2.1)).setCell ⟨(ad.add (K * 3)).block, (ad.add (K * 3)).off + 2, none⟩ (.int .i64 y.2.2)).ownsRow base 33 3 (.slice (some ad) m.length c) m.length ((m.set K y).flatMap encA) ∧
    w.grownBy (((w.setCell (ad.add (K * 3)) (.string y.1)).setCell ⟨(ad.add (K * 3)).block, (ad.add (K * 3)).off + 1, none⟩ (.int .i64 y.2.1)).setCell ⟨(ad.add (K * 3)).block, (ad.add (K * 3)).off + 2, none⟩ (.int .i64 y.2.2)) (some ad.block) := by
  have h0 := h
  rcases h.2 with ⟨h', _⟩ | ⟨g, cap, cur, h', hb, hg, _⟩
  · cases h'
  · simp only [Value.slice.injEq, Option.some.injEq] at h'
    obtain ⟨h1, _, _⟩ := h'
    subst h1
    have e : (⟨g, 0, none⟩ : Addr).add (K * 3) = ⟨g, K * 3, none⟩ := add_plain _ _
    rw [e]
    obtain ⟨a1, b1⟩ := World.ownsRow.stored h0 (K * 3) (.string y.1)
    obtain ⟨a2, b2⟩ := World.ownsRow.stored a1 (K * 3 + 1) (.int .i64 y.2.1)
    obtain ⟨a3, b3⟩ := World.ownsRow.stored a2 (K * 3 + 2) (.int .i64 y.2.2)
    refine ⟨h0.frozenAt _, h0.frozenAt _, h0.frozenAt _, ?_, (b1.trans b2).trans b3⟩
    have e1 := flat_set m K 0 (.string y.1) (y.1, m[K].2.1, m[K].2.2) hK (by decide) (fun x hx => by rw [List.getElem?_eq_getElem hK] at hx; injection hx with hx; rw [← hx]; rfl)
    rw [Nat.add_zero] at e1
    rw [e1, flat_set (m.set K (y.1, m[K].2.1, m[K].2.2)) K 1 (.int .i64 y.2.1) (y.1, y.2.1, m[K].2.2) (by simpa using hK) (by decide) (fun x hx => by rw [List.getElem?_set_self hK] at hx; injection hx with hx; rw [← hx]; rfl), List.set_set,
      flat_set (m.set K (y.1, y.2.1, m[K].2.2)) K 2 (.int .i64 y.2.2) y (by simpa using hK) (by decide) (fun x hx => by rw [List.getElem?_set_self hK] at hx; injection hx with hx; rw [← hx]; rfl), List.set_set] at a3
    exact a3
structure PRel (w : World) (ad : Addr) (cap : Nat) (l : List Acct) (w6 : World) (k : Nat) (wr : World) : Prop where
  own : wr.ownsRow w.heap.size 33 3 (.slice (some ad) (l.length + 1) cap) (l.length + 1) ((sp l k).flatMap encA)
  gr : w6.grownBy wr (some ad.block)
theorem PRel.drewN {w : World} {ad : Addr} {cap : Nat} {l : List Acct} {w6 : World} {k : Nat} {wr : World} (h : PRel w ad cap l w6 k wr) (n : Nat) : PRel w ad cap l w6 k (wr.drewN n) := ⟨h.own, h.gr.trans (grown_drewN _ _ _)⟩
theorem PRel.bel {w : World} {ad : Addr} {cap : Nat} {l : List Acct} {w6 : World} {k : Nat} {wr : World} (h : PRel w ad cap l w6 k wr) (h6 : Below w.heap.size w w6) (hb : w.heap.size ≤ ad.block) : Below w.heap.size w wr :=
  h6.grown h.gr h6.size (fun k hk => by injection hk with hk; subst hk; exact hb)
theorem PRel.reads {w : World} {ad : Addr} {cap : Nat} {l : List Acct} {w6 : World} {k : Nat} {wr : World} (h : PRel w ad cap l w6 k wr) (hk : k ≤ l.length) : kAc.C wr (some ad) (sp l k).length (sp l k) := by
  have h0 := h.own
  rw [← sp_len l k hk] at h0
  obtain ⟨A', c', e', _, hC'⟩ := C_all (d := kAc) kAc_mk rfl h0
  simp only [Value.slice.injEq] at e'
  obtain ⟨e1, _, _⟩ := e'
  subst e1
  exact hC'
theorem PRel.write {w : World} {ad : Addr} {cap : Nat} {l : List Acct} {w6 : World} {k : Nat} {W : World} (h : PRel w ad cap l w6 k W) (hk : k < l.length) :
    W.frozen? (ad.add (k * 3)) = false ∧ W.frozen? ⟨(ad.add (k * 3)).block, (ad.add (k * 3)).off + 1, none⟩ = false ∧ W.frozen? ⟨(ad.add (k * 3)).block, (ad.add (k * 3)).off + 2, none⟩ = false ∧
    PRel w ad cap l w6 (k + 1) (((W.setCell (ad.add (k * 3)) (.string ⟨#[]⟩)).setCell ⟨(ad.add (k * 3)).block, (ad.add (k * 3)).off + 1, none⟩ (.int .i64 0)).setCell ⟨(ad.add (k * 3)).block, (ad.add (k * 3)).off + 2, none⟩ (.int .i64 (-8))) := by
  have h0 := h.own
  have hl := sp_len l k (by omega)
  rw [← hl] at h0
  obtain ⟨f0, f1, f2, r, g⟩ := row_write3 h0 k z8 (by omega)
  rw [sp_set l k hk, hl] at r
  exact ⟨f0, f1, f2, r, h.gr.trans g⟩
theorem three_far (W : World) (q : Addr) {a b : Value} (h1 : W.cell? ⟨q.block, q.off + 1, none⟩ = some a) (h2 : W.cell? ⟨q.block, q.off + 2, none⟩ = some b) (f1 : W.frozen? ⟨q.block, q.off + 1, none⟩ = false) (f2 : W.frozen? ⟨q.block, q.off + 2, none⟩ = false) :
    (∀ u, (W.setCell q u).cell? ⟨q.block, q.off + 1, none⟩ = some a) ∧ (∀ u v, ((W.setCell q u).setCell ⟨q.block, q.off + 1, none⟩ v).cell? ⟨q.block, q.off + 2, none⟩ = some b) ∧
    (∀ u, (W.setCell q u).frozen? ⟨q.block, q.off + 1, none⟩ = false) ∧ (∀ u v, ((W.setCell q u).setCell ⟨q.block, q.off + 1, none⟩ v).frozen? ⟨q.block, q.off + 2, none⟩ = false) := by
  have n1 : (⟨q.block, q.off + 1, none⟩ : Addr) ≠ q := fun e => by
    have := congrArg Addr.off e
    simp at this
  have n2 : (⟨q.block, q.off + 2, none⟩ : Addr) ≠ q := fun e => by
    have := congrArg Addr.off e
    simp at this
  have n3 : (⟨q.block, q.off + 2, none⟩ : Addr) ≠ ⟨q.block, q.off + 1, none⟩ := fun e => by
    have := congrArg Addr.off e
    simp at this
  refine ⟨fun u => ?_, fun u v => ?_, fun u => ?_, fun u v => ?_⟩
  · rw [World.cell?_setCell_other _ _ _ _ n1.symm]; exact h1
  · rw [World.cell?_setCell_other _ _ _ _ n3.symm, World.cell?_setCell_other _ _ _ _ n2.symm]; exact h2
  · rw [World.frozen?_setCell]; exact f1
  · rw [World.frozen?_setCell, World.frozen?_setCell]; exact f2
/-- The lent row is written: both books stay. -/
theorem Both.lent {w0 w w' : World} {p b r base : Nat} {m n : List Acct} {g : Nat} (h : Both w0 p b r base m n w) (hg : w.grownBy w' (some g)) (hp : g ≠ p) (hb : g ≠ b) (hr : g ≠ r) (hbs : g < base) (hw : w0.heap.size ≤ g) : Both w0 p b r base m n w' := by
  obtain ⟨v, h1, h2⟩ := h.rb
  refine ⟨h.bk.kept hg (by simpa using hp.symm) (by simpa using hb.symm), ⟨v, h1.grown hg (by simpa using hr.symm), h2.kept hg (.inr ?_)⟩, h.bel.grown hg h.bel.size (fun k hk => by injection hk with hk; subst hk; exact hw), h.lb, h.lr, h.ls, Nat.le_trans h.lw hg.size⟩
  intro e
  have := own_base h2 g e
  omega
set_option maxHeartbeats 16000000 in
set_option maxRecDepth 20000 in
theorem plays_any (A : Option Addr) (c : Nat) (l : List Acct) (A2 : Option Addr) (c2 : Nat) (sc : List OpT) (w : World) (hr : kAc.C w A l.length l) (hlc : l.length ≤ c) (hl32 : l.length * 32 ≤ 140737488351232)
    (hr2 : kOp.C w A2 sc.length sc) (hsc : ∀ x ∈ sc, (-9223372036854775808 ≤ x.1 ∧ x.1 ≤ 9223372036854775807) ∧ (-9223372036854775808 ≤ x.2.1 ∧ x.2.1 ≤ 9223372036854775807) ∧ x.2.2.size ≤ maxLen) :
    Calls Try.prog 6 #[.slice A l.length c, .slice A2 sc.length c2] w fun e w' => e = .returned (.bool true) ∧ Below w.heap.size w w' := by
  have hC := Lib.hid hr
  have HLC := Lib.hid hlc
  have HC2 := Lib.hid hr2
  have HSC := Lib.hid hsc
  have hl := hr.2.1
  have hl2 := hr2.2.1
  obtain ⟨i0, hi, hz0, hz1, hz2⟩ := info_parts info33
  clear hr hlc hr2 hsc
  go_enter Try.func6, Try.ntmps6
  go_wp2_with fail
  refine (awake_any w).mono ?_
  rintro e w1 ⟨rfl, hb⟩
  have L1 := Lib.hid hb
  have hw1 : wrap64 ((l.length : Int) + 1) = (l.length : Int) + 1 := wrap_id (by omega)
  clear hb
  go_wp2_with (first
    | (at_make; refine wpList_make_own _ rfl _ _ 40 rfl w1.heap.size 33 i0 (.agg #[.string ⟨#[]⟩, .int .i64 0, .int .i64 0]) 3 Try.underlying40 hi hz0 hz1 .i64 .i64 ((l.length : Int) + 1) (l.length + 1) rfl rfl (by omega) (by rw [hz2]; omega) (by unfold maxLen; omega) (Nat.le_refl _) ?_; intro w2 hown2 hg2)
    | (at_builtin; refine wpList_append_C _ rfl _ _ rfl w1.heap.size _ 0 [] rfl hown2 A c l l.length rfl rfl (Kd.C_below hC.out (below_none L1.out hg2 L1.out.size)) (by omega) hg2.size ⟨_, _, rfl⟩ ?_; intro v3 w3 hown3 hg3; rw [Nat.zero_add, List.nil_append] at hown3; have hs3 : w1.heap.size ≤ w3.heap.size := Nat.le_trans hg2.size hg3.size)
    | (at_builtin; refine wpList_append_own _ rfl _ _ 40 rfl w1.heap.size 33 i0 (.agg #[.string ⟨#[]⟩, .int .i64 0, .int .i64 0]) 3 32 Try.underlying40 hi hz0 hz1 hz2 rfl (by decide) _ _ _ rfl (hown3.alloc _) ⟨w3.heap.size, 0, none⟩ 1 1 (encA z7) rfl rfl (cells_new w3 33 z7) (encA_one _) (by unfold maxLen; omega) (by omega) (Nat.le_trans hs3 (by simp)) ?_; intro v4 w4 hown4 hg4 _; obtain ⟨B4, cap4, rfl⟩ := own_form hown4; refine Hid.out ?_))
  have b2 : Below w1.heap.size w1 w2 := ⟨hg2.os, hg2.tape, hg2.output, hg2.size, fun j hj => hg2.block j hj (by simp)⟩
  have b3 : Below w1.heap.size w1 w3 := b2.grown hg3 hg2.size (fun k hk => by injection hk with hk; subst hk; exact Nat.le_refl _)
  have b4 : Below w1.heap.size w1 w4 := (b3.alloc hs3 _).grown hg4 (Nat.le_trans hs3 (by simp)) (fun k hk => own_base hown3 k hk)
  have hfl : l.flatMap encA ++ encA z7 = (sp l 0).flatMap encA := by simp [sp]
  have hln : l.length + 1 = (sp l 0).length := (sp_len l 0 (Nat.zero_le _)).symm
  rw [hfl] at hown4
  rcases slice_forms hown4 with ⟨_, h0, _⟩ | ⟨ad, rfl, hcap⟩
  · omega
  have L4 := Lib.hid (L1.out.trans (b4.mono L1.out.size))
  have hbb : w1.heap.size ≤ ad.block := own_base hown4 ad.block rfl
  have hal := own_lt hown4 ad.block rfl
  have HBB := Lib.hid (show w.heap.size ≤ ad.block from Nat.le_trans L1.out.size hbb)
  have HAL := Lib.hid hal
  have HO := Lib.hid hown4
  have HLN := Lib.hid hln
  have N01 := Lib.hid L1.out.size
  clear hown2 hg2 hown3 hg3 hs3 hown4 hg4 b2 b3 b4 hfl hln hbb hal L1
  have C4 : kAc.C w4 (some ad) l.length l := by
    have h := HO.out
    rw [HLN.out] at h
    obtain ⟨A', c', e', _, hC'⟩ := C_all (d := kAc) kAc_mk rfl h
    simp only [Value.slice.injEq] at e'
    obtain ⟨e1, _, _⟩ := e'
    subst e1
    have ht := C_take hC' l.length (by rw [← HLN.out]; omega)
    have e2 : (sp l 0).take l.length = l := by simp [sp]
    rwa [e2] at ht
  have g1 : (l.length : Int) ≤ (cap4 : Int) := by omega
  have HC4 := Lib.hid C4
  clear C4
  refine Lib.hid ?_
  go_wp2_with fail
  refine (open_any (some ad) cap4 l w4 HC4.out).mono ?_
  rintro e w5 ⟨hb5, hcase5⟩
  have L5 := Lib.hid (L4.out.trans (hb5.mono L4.out.size))
  have HB5 := Lib.hid hb5
  clear hb5
  rcases hcase5 with ⟨hok, hF, p, b, rfl, hBk, hlb, hlp⟩ | ⟨hne, rfl⟩
  · have HF := Lib.hid hF
    have HBk := Lib.hid hBk
    have HLB := Lib.hid (show ad.block < b ∧ ad.block < p from ⟨Nat.lt_of_lt_of_le HAL.out hlb, Nat.lt_of_lt_of_le HAL.out hlp⟩)
    have HOK := Lib.hid hok
    clear hF hBk hlb hlp hok
    go_wp2_with fail
    refine (refopen_any A c l w5 (Kd.C_below hC.out L5.out) HLC.out).mono ?_
    rintro e w6 ⟨hb6, hcase6⟩
    have L6 := Lib.hid (L5.out.trans (hb6.mono L5.out.size))
    rcases hcase6 with ⟨_, r, rfl, hRb, hlr⟩ | ⟨hne, rfl⟩
    · have g6 : w5.grownBy w6 none := ⟨hb6.os, hb6.tape, hb6.output, hb6.size, fun k hk _ => hb6.block k hk⟩
      have hown6 : w6.ownsRow w.heap.size 33 3 (.slice (some ad) (l.length + 1) cap4) (l.length + 1) ((sp l 0).flatMap encA) :=
        own_weaken (own_move HO.out (fun k hk => by
          injection hk with hk
          subst hk
          exact (hb6.block _ (Nat.lt_of_lt_of_le HAL.out HB5.out.size)).trans (HB5.out.block _ HAL.out))) N01.out
      have HBo := Lib.hid (show Both w p b r w5.heap.size l l w6 from ⟨HBk.out.kept g6 (by simp) (by simp), hRb, L6.out, Nat.le_trans HBB.out (Nat.le_of_lt HLB.out.1), Nat.le_trans L5.out.size hlr, L5.out.size, g6.size⟩)
      have HNE := Lib.hid (show ad.block ≠ p ∧ ad.block ≠ b ∧ ad.block ≠ r ∧ ad.block < w5.heap.size by
        have h1 := HLB.out
        have h2 : ad.block < w5.heap.size := Nat.lt_of_lt_of_le HAL.out HB5.out.size
        omega)
      have HP := Lib.hid (show PRel w ad cap4 l w6 0 w6 from ⟨hown6, World.grownBy.refl _ _⟩)
      clear hb6 g6 hRb hlr hown6 HB5 HBk HLB HOK
      have hlen1 : (sp l 0).length = l.length + 1 := sp_len l 0 (Nat.zero_le _)
      have hC0 : kAc.C w6 (some ad) (sp l 0).length (sp l 0) := by
        have h := HP.out.own
        rw [← hlen1] at h
        obtain ⟨A', c', e', _, hC'⟩ := C_all (d := kAc) kAc_mk rfl h
        simp only [Value.slice.injEq] at e'
        obtain ⟨e1, _, _⟩ := e'
        subst e1
        exact hC'
      obtain ⟨ad', e', _, _, x7⟩ := at_ac hC0 (show l.length < (sp l 0).length by omega)
      injection e' with e'
      subst e'
      have hz7 : (sp l 0)[l.length]'(by omega) = z7 := by simp [sp]
      rw [hz7] at x7
      have x7' : w6.cell? ⟨(ad.add (l.length * 3)).block, (ad.add (l.length * 3)).off + 2, none⟩ = some (.int .i64 (-7)) := x7
      have hll : (l.length : Int) < (l.length : Int) + 1 := by omega
      clear hC0 x7 hz7
      go_wp2
      clear x7'
      go_loopw [11, 12] (fun sv iv wr => ∃ k : Nat, k ≤ l.length ∧ iv = .int .i64 k ∧ sv = .bool true ∧ PRel w ad cap4 l w6 k wr) (fun _ iv _ => l.length - (intOf iv).toNat)
      case atStart => exact ⟨0, Nat.zero_le _, rfl, rfl, HP.out⟩
      case round =>
        obtain ⟨k, hk, rfl, rfl, hR⟩ := hrel
        clear HP
        have HP := Lib.hid hR
        clear hR
        by_cases hlt : k < l.length
        · obtain ⟨adl, e0, hx0, hx1, hx2⟩ := at_ac (Kd.C_below hC.out (HP.out.bel L6.out HBB.out)) hlt
          subst e0
          obtain ⟨hk1, hk2⟩ := sp_get l k hlt
          obtain ⟨ad2, e2, hy0, hy1, hy2⟩ := at_ac (HP.out.reads hk) hk1
          injection e2 with e2
          subst e2
          rw [hk2] at hy0 hy1 hy2
          obtain ⟨x, hxe⟩ : ∃ x, x = l[k] := ⟨_, rfl⟩
          rw [← hxe] at hx0 hx1 hx2 hy0 hy1 hy2
          have hkl : (k : Int) < (l.length : Int) := by omega
          have hkl2 : (k : Int) < (l.length : Int) + 1 := by omega
          clear hk2 hxe
          go_wp2_with fail
          go_quiet (fail)
          obtain ⟨W1, hW1⟩ : ∃ W, W = wr.drewN nq := ⟨_, rfl⟩
          have HP1 := Lib.hid (show PRel w ad cap4 l w6 k W1 by rw [hW1]; exact HP.out.drewN nq)
          replace hy0 : W1.cell? (ad.add (k * 3)) = some (.string x.1) := by rw [hW1]; exact hy0
          replace hy1 : W1.cell? ⟨(ad.add (k * 3)).block, (ad.add (k * 3)).off + 1, none⟩ = some (.int .i64 x.2.1) := by rw [hW1]; exact hy1
          replace hy2 : W1.cell? ⟨(ad.add (k * 3)).block, (ad.add (k * 3)).off + 2, none⟩ = some (.int .i64 x.2.2) := by rw [hW1]; exact hy2
          rw [← hW1]
          obtain ⟨f0, f1, f2, hnext⟩ := HP1.out.write hlt
          have s1 := three_far W1 (ad.add (k * 3)) hy1 hy2 f1 f2
          obtain ⟨s1, s2, s3, s4⟩ := s1
          have HN := Lib.hid hnext
          clear hW1 hx0 hx1 hx2 HP HP1 hnext
          go_wp2
          refine ⟨⟨k + 1, by omega, by go_num, rfl, HN.out⟩, by simp [intOf]; omega⟩
        · have hkm : k = l.length := by omega
          subst hkm
          have HM := Lib.hid (HBo.out.lent HP.out.gr HNE.out.1 HNE.out.2.1 HNE.out.2.2.1 HNE.out.2.2.2 HBB.out)
          clear HP
          go_wp2
          go_loopw [13] (fun iv wr => ∃ (k : Nat) (m : List Acct), k ≤ sc.length ∧ iv = .int .i64 k ∧ Fine m ∧ Both w p b r w5.heap.size m m wr) (fun iv _ => sc.length - (intOf iv).toNat)
          case atStart => exact ⟨0, _, Nat.zero_le _, rfl, HF.out, HM.out⟩
          case round =>
            rename_i wq _
            obtain ⟨k, m, hk, rfl, hfm, hR⟩ := hrel
            clear HM HF
            have HM := Lib.hid hR
            have HF := Lib.hid hfm
            clear hR hfm
            by_cases hlt : k < sc.length
            · obtain ⟨ads, e0, hx0, hx1, hx2⟩ := at_op (Kd.C_below HC2.out HM.out.bel) hlt
              subst e0
              obtain ⟨x, hxe⟩ : ∃ x, x = sc[k] := ⟨_, rfl⟩
              have hxs := HSC.out x (by rw [hxe]; exact List.getElem_mem _)
              rw [← hxe] at hx0 hx1 hx2
              have HXS := Lib.hid hxs
              clear hxe hxs
              go_wp2_with fail
              refine (does_any w p b r w5.heap.size m x _ HM.out HF.out HXS.out.1 HXS.out.2.1 HXS.out.2.2).mono ?_
              rintro e w9 ⟨rfl, hB9⟩
              replace HM := Lib.hid hB9
              have HF2 := Lib.hid (fine_does HF.out x)
              clear hB9 hx0 hx1 hx2
              go_wp2
              refine ⟨⟨k + 1, _, by omega, by go_num, HF2.out, HM.out⟩, by simp [intOf]; omega⟩
            · go_wp2_with fail
              refine (does_any w p b r w5.heap.size m (4, 0, ⟨#[]⟩) _ HM.out HF.out (by decide) (by decide) (by decide)).mono ?_
              rintro e w9 ⟨rfl, hB9⟩
              go_wp2
              go_ret
              exact ⟨rfl, hB9.bel⟩
    · exact absurd HOK.out hne
  · have HNZ := Lib.hid hne
    clear hne
    go_wp2_with fail
    refine (refopen_any A c l w5 (Kd.C_below hC.out L5.out) HLC.out).mono ?_
    rintro e w6 ⟨hb6, hcase6⟩
    have L6 := Lib.hid (L5.out.trans (hb6.mono L5.out.size))
    rcases hcase6 with ⟨hz, _⟩ | ⟨_, rfl⟩
    · exact absurd hz HNZ.out
    · have hown6 : w6.ownsRow w.heap.size 33 3 (.slice (some ad) (l.length + 1) cap4) (l.length + 1) ((sp l 0).flatMap encA) :=
        own_weaken (own_move HO.out (fun k hk => by
          injection hk with hk
          subst hk
          exact (hb6.block _ (Nat.lt_of_lt_of_le HAL.out HB5.out.size)).trans (HB5.out.block _ HAL.out))) N01.out
      have HP := Lib.hid (show PRel w ad cap4 l w6 0 w6 from ⟨hown6, World.grownBy.refl _ _⟩)
      clear hb6 hown6 HB5
      have hlen1 : (sp l 0).length = l.length + 1 := sp_len l 0 (Nat.zero_le _)
      have hC0 : kAc.C w6 (some ad) (sp l 0).length (sp l 0) := by
        have h := HP.out.own
        rw [← hlen1] at h
        obtain ⟨A', c', e', _, hC'⟩ := C_all (d := kAc) kAc_mk rfl h
        simp only [Value.slice.injEq] at e'
        obtain ⟨e1, _, _⟩ := e'
        subst e1
        exact hC'
      obtain ⟨ad', e', _, _, x7⟩ := at_ac hC0 (show l.length < (sp l 0).length by omega)
      injection e' with e'
      subst e'
      have hz7 : (sp l 0)[l.length]'(by omega) = z7 := by simp [sp]
      rw [hz7] at x7
      have x7' : w6.cell? ⟨(ad.add (l.length * 3)).block, (ad.add (l.length * 3)).off + 2, none⟩ = some (.int .i64 (-7)) := x7
      have hll : (l.length : Int) < (l.length : Int) + 1 := by omega
      clear hC0 x7 hz7
      go_wp2
      clear x7'
      go_loopw [11, 12] (fun sv iv wr => ∃ k : Nat, k ≤ l.length ∧ iv = .int .i64 k ∧ sv = .bool true ∧ PRel w ad cap4 l w6 k wr) (fun _ iv _ => l.length - (intOf iv).toNat)
      case atStart => exact ⟨0, Nat.zero_le _, rfl, rfl, HP.out⟩
      case round =>
        obtain ⟨k, hk, rfl, rfl, hR⟩ := hrel
        clear HP
        have HP := Lib.hid hR
        clear hR
        by_cases hlt : k < l.length
        · obtain ⟨adl, e0, hx0, hx1, hx2⟩ := at_ac (Kd.C_below hC.out (HP.out.bel L6.out HBB.out)) hlt
          subst e0
          obtain ⟨hk1, hk2⟩ := sp_get l k hlt
          obtain ⟨ad2, e2, hy0, hy1, hy2⟩ := at_ac (HP.out.reads hk) hk1
          injection e2 with e2
          subst e2
          rw [hk2] at hy0 hy1 hy2
          obtain ⟨x, hxe⟩ : ∃ x, x = l[k] := ⟨_, rfl⟩
          rw [← hxe] at hx0 hx1 hx2 hy0 hy1 hy2
          have hkl : (k : Int) < (l.length : Int) := by omega
          have hkl2 : (k : Int) < (l.length : Int) + 1 := by omega
          clear hk2 hxe
          go_wp2_with fail
          go_quiet (fail)
          obtain ⟨W1, hW1⟩ : ∃ W, W = wr.drewN nq := ⟨_, rfl⟩
          have HP1 := Lib.hid (show PRel w ad cap4 l w6 k W1 by rw [hW1]; exact HP.out.drewN nq)
          replace hy0 : W1.cell? (ad.add (k * 3)) = some (.string x.1) := by rw [hW1]; exact hy0
          replace hy1 : W1.cell? ⟨(ad.add (k * 3)).block, (ad.add (k * 3)).off + 1, none⟩ = some (.int .i64 x.2.1) := by rw [hW1]; exact hy1
          replace hy2 : W1.cell? ⟨(ad.add (k * 3)).block, (ad.add (k * 3)).off + 2, none⟩ = some (.int .i64 x.2.2) := by rw [hW1]; exact hy2
          rw [← hW1]
          obtain ⟨f0, f1, f2, hnext⟩ := HP1.out.write hlt
          have s1 := three_far W1 (ad.add (k * 3)) hy1 hy2 f1 f2
          obtain ⟨s1, s2, s3, s4⟩ := s1
          have HN := Lib.hid hnext
          clear hW1 hx0 hx1 hx2 HP HP1 hnext
          go_wp2
          refine ⟨⟨k + 1, by omega, by go_num, rfl, HN.out⟩, by simp [intOf]; omega⟩
        · have hkm : k = l.length := by omega
          subst hkm
          have hbl : Below w.heap.size w wr := L6.out.grown HP.out.gr L6.out.size (fun k hk => by injection hk with hk; subst hk; exact HBB.out)
          have LR := Lib.hid hbl
          clear HP hbl
          go_wp2_with fail
          refine (new_any wr).mono ?_
          rintro e w7 ⟨rfl, hB7, hg7⟩
          obtain ⟨p, hp⟩ : ∃ p, p = wr.heap.size + 1 := ⟨_, rfl⟩
          obtain ⟨b, hb⟩ : ∃ b, b = wr.heap.size := ⟨_, rfl⟩
          rw [← hp, ← hb] at hB7
          rw [← hp]
          have n0 : w.heap.size ≤ b := by rw [hb]; exact LR.out.size
          obtain ⟨r, hr⟩ : ∃ r, r = w7.heap.size := ⟨_, rfl⟩
          obtain ⟨W7, hW7⟩ : ∃ W, W = w7.alloc (.cells #[.slice none 0 0] 52) := ⟨_, rfl⟩
          have HB7 : Both w p b r w7.heap.size [] [] W7 := by
            rw [hW7]
            have l7 := below_none LR.out hg7 LR.out.size
            exact ⟨hB7.alloc _, ⟨_, by rw [hr]; exact Blk.new _ _ _, World.ownsRow_nil _ _ _ _⟩, below_alloc l7 _, n0, by rw [hr]; exact l7.size, l7.size, by simp⟩
          have HM := Lib.hid HB7
          have HF := Lib.hid fine_nil
          have HW7 := Lib.hid hW7
          have HR7 := Lib.hid hr
          clear hB7 hg7 hp hb n0 hr hW7 HB7
          go_wp2
          rw [← HR7.out]
          rw [← HW7.out]
          go_loopw [13] (fun iv wr => ∃ (k : Nat) (m : List Acct), k ≤ sc.length ∧ iv = .int .i64 k ∧ Fine m ∧ Both w p b r w7.heap.size m m wr) (fun iv _ => sc.length - (intOf iv).toNat)
          case atStart => exact ⟨0, _, Nat.zero_le _, rfl, HF.out, HM.out⟩
          case round =>
            rename_i wq _
            obtain ⟨k, m, hk, rfl, hfm, hR⟩ := hrel
            clear HM HF
            have HM := Lib.hid hR
            have HF := Lib.hid hfm
            clear hR hfm
            by_cases hlt : k < sc.length
            · obtain ⟨ads, e0, hx0, hx1, hx2⟩ := at_op (Kd.C_below HC2.out HM.out.bel) hlt
              subst e0
              obtain ⟨x, hxe⟩ : ∃ x, x = sc[k] := ⟨_, rfl⟩
              have hxs := HSC.out x (by rw [hxe]; exact List.getElem_mem _)
              rw [← hxe] at hx0 hx1 hx2
              have HXS := Lib.hid hxs
              clear hxe hxs
              go_wp2_with fail
              refine (does_any w p b r w7.heap.size m x _ HM.out HF.out HXS.out.1 HXS.out.2.1 HXS.out.2.2).mono ?_
              rintro e w9 ⟨rfl, hB9⟩
              replace HM := Lib.hid hB9
              have HF2 := Lib.hid (fine_does HF.out x)
              clear hB9 hx0 hx1 hx2
              go_wp2
              refine ⟨⟨k + 1, _, by omega, by go_num, HF2.out, HM.out⟩, by simp [intOf]; omega⟩
            · go_wp2_with fail
              refine (does_any w p b r w7.heap.size m (4, 0, ⟨#[]⟩) _ HM.out HF.out (by decide) (by decide) (by decide)).mono ?_
              rintro e w9 ⟨rfl, hB9⟩
              go_wp2
              go_ret
              exact ⟨rfl, hB9.bel⟩
end Go.Proofs.Ytbfpggghcdfghaa.Hand
