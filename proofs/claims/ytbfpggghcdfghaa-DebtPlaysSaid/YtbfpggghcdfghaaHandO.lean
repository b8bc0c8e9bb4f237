/- fareboxref22's Book by hand: Set; rows appended to rows. -/
import Derived.Test.YtbfpggghcdfghaaHandN
namespace Go.Proofs.Ytbfpggghcdfghaa.Hand
open Go.RowKit Go.Maps Go.Sort Go.Proofs.YtbfpggghcdfghaaW.PrintWords Go.Proofs.Ytbfpggghcdfghaa.PA

theorem flat_get (l : List Acct) (j : Nat) (u : Value) (h : (l.flatMap encA)[j]? = some u) : ∃ x, l[j / 3]? = some x ∧ (encA x)[j % 3]? = some u := by
  induction l generalizing j with
  | nil => simp at h
  | cons x r ih =>
    rw [List.flatMap_cons] at h
    by_cases hj : j < 3
    · rw [List.getElem?_append_left (by rw [encA_len]; exact hj)] at h
      have e1 : j / 3 = 0 := by omega
      have e2 : j % 3 = j := by omega
      rw [e1, e2]
      exact ⟨x, rfl, h⟩
    · rw [List.getElem?_append_right (by rw [encA_len]; omega), encA_len] at h
      obtain ⟨y, h1, h2⟩ := ih (j - 3) h
      have e1 : j / 3 = (j - 3) / 3 + 1 := by omega
      have e2 : j % 3 = (j - 3) % 3 := by omega
      rw [e1, e2]
      exact ⟨y, by simpa using h1, h2⟩
theorem C_news {w : World} {ad : Addr} {l : List Acct} (h : kAc.C w (some ad) l.length l) : ∀ j u, (l.flatMap encA)[j]? = some u → w.cell? (ad.add j) = some u := by
  intro j u hu
  obtain ⟨x, h1, h2⟩ := flat_get l j u hu
  have hl := (List.getElem?_eq_some_iff.1 h1).1
  obtain ⟨ad', e, hc⟩ := h.2.2 (by omega)
  injection e with e
  subst e
  obtain ⟨c, hs, hK, hcell⟩ := hc (j / 3) x h1
  obtain rfl := kAc_open hK
  have := hcell (j % 3) u h2
  have e3 : j / 3 * kAc.sz + j % 3 = j := by show j / 3 * 3 + j % 3 = j; omega
  rwa [e3] at this
theorem flat_one (l : List Acct) : ∀ u ∈ l.flatMap encA, u.oneCell' = true := by
  intro u hu
  obtain ⟨x, _, hx⟩ := List.mem_flatMap.1 hu
  exact encA_one x u hx
theorem add_add_ (a : Addr) (i j : Nat) : (a.add i).add j = a.add (i + j) := by
  unfold Addr.add
  by_cases hi : i = 0 <;> by_cases hj : j = 0 <;> simp [hi, hj, Nat.add_assoc]
theorem run_append_none {P : Program} (w : World) (t e ty : TypeId) (i : TypeInfo) (h1 : P.underlying t = some (.slice e)) (h2 : P.info? e = some i) (c : Nat) :
    (Builtin.append_ #[t, t] ty #[.slice none 0 0, .slice none 0 c]).run P w = .ok (.slice none 0 0) w := by
  simp [Builtin.append_, run_underlying h1, sizeOf, typeInfo, h2, Builtin.lenOf, Builtin.firstCells]
theorem run_append_some {P : Program} (w : World) (t e ty : TypeId) (i : TypeInfo) (h1 : P.underlying t = some (.slice e)) (h2 : P.info? e = some i) (ad : Addr) (n cap : Nat) (hk : n ≤ cap) (c : Nat) :
    (Builtin.append_ #[t, t] ty #[.slice (some ad) n cap, .slice none 0 c]).run P w = .ok (.slice (some ad) n cap) w := by
  simp [Builtin.append_, run_underlying h1, sizeOf, typeInfo, h2, Builtin.lenOf, Builtin.firstCells, hk, storeCells]
theorem slice_forms {w : World} {base : Nat} {e : TypeId} {s n cap : Nat} {B : Option Addr} {xs : List Value} (h : w.ownsRow base e s (.slice B n cap) n xs) : (B = none ∧ n = 0 ∧ cap = 0) ∨ ∃ ad, B = some ad ∧ n ≤ cap := by
  rcases h.2 with ⟨h1, h2⟩ | ⟨g, cap', cur, h1, _, _, h2, _⟩
  · simp only [Value.slice.injEq] at h1
    exact .inl ⟨h1.1, h2, h1.2.2⟩
  · simp only [Value.slice.injEq] at h1
    exact .inr ⟨_, h1.1, by omega⟩
/-- 'append(s, x...)' to a row of the call's own, from wherever. -/
theorem wpList_append_C (w : World) {ops : Array Oper} {rest : List Oper} {o : Oper} {a : Act} {Q : Exit → Act → World → Prop} (hgd : o.guard = none) (s x : Operand)
    (ho : o.op = .call { callee := .builtin .append, args := #[s, x], argTypes := #[40, 40] }) (base : Nat) (v : Value) (n : Nat) (xs : List Value) (hs : a.eval s = v) (hown : w.ownsRow base 33 3 v n xs)
    (A : Option Addr) (c : Nat) (l : List Acct) (q : Nat) (hq : l.length = q) (hx : a.eval x = .slice A q c) (hC : kAc.C w A l.length l) (h63 : (n + l.length) * 32 ≤ 140737488355328) (hbase : base ≤ w.heap.size) (hvs : ∃ B cap, v = .slice B n cap)
    (h : ∀ v' w', w'.ownsRow base 33 3 v' (n + l.length) (xs ++ l.flatMap encA) → w.grownBy w' v.ownBlock → wpList Try.prog ops Q rest (a.put o.dst v') w') : wpList Try.prog ops Q (o :: rest) a w := by
  obtain ⟨i0, hi, hz0, hz1, hz2⟩ := info_parts info33
  subst hq
  cases A with
  | some ad =>
    exact wpList_append_own w hgd s x 40 ho base 33 i0 (.agg #[.string ⟨#[]⟩, .int .i64 0, .int .i64 0]) 3 32 Try.underlying40 hi hz0 hz1 hz2 rfl (by decide) v n xs hs hown ad l.length c (l.flatMap encA) hx (flat_len l) (C_news hC) (flat_one l) (by unfold maxLen; omega) (by omega) hbase
      (fun v' w' h1 h2 _ => h v' w' h1 h2)
  | none =>
    have h0 : l.length = 0 := by
      rcases Nat.eq_zero_or_pos l.length with h | h
      · exact h
      · obtain ⟨ad, e0, _⟩ := hC.2.2 h
        cases e0
    have hl : l = [] := List.eq_nil_of_length_eq_zero h0
    subst hl
    obtain ⟨B, cap, rfl⟩ := hvs
    refine wpList_plain hgd fun K hK' => ?_
    have hrun : (Builtin.append_ #[40, 40] o.type #[.slice B n cap, .slice none 0 c]).run Try.prog w = .ok (.slice B n cap) w := by
      rcases slice_forms hown with ⟨rfl, rfl, rfl⟩ | ⟨ad, rfl, hk⟩
      · exact run_append_none w 40 33 o.type i0 Try.underlying40 hi c
      · exact run_append_some w 40 33 o.type i0 Try.underlying40 hi ad n cap hk c
    unfold Oper.wp
    simp [execOp, ho, resolve, invoke, builtin, hs, hx, hrun, Result.andThen]
    exact hK' _ _ (h _ w (by simpa using hown) (World.grownBy.refl _ _))

theorem C_take {w : World} {A : Option Addr} {l : List Acct} (h : kAc.C w A l.length l) (K : Nat) (hK : K ≤ l.length) : kAc.C w A (l.take K).length (l.take K) := by
  obtain ⟨_, h2, h3⟩ := h
  refine ⟨rfl, by rw [List.length_take]; omega, fun h0 => ?_⟩
  rw [List.length_take] at h0
  obtain ⟨ad, e, hc⟩ := h3 (by omega)
  refine ⟨ad, e, fun j p hj => hc j p ?_⟩
  rw [List.getElem?_take] at hj
  split at hj
  · exact hj
  · cases hj
theorem C_drop {w : World} {ad : Addr} {l : List Acct} (h : kAc.C w (some ad) l.length l) (K : Nat) (hK : K ≤ l.length) : kAc.C w (some (ad.add (K * 3))) (l.drop K).length (l.drop K) := by
  obtain ⟨_, h2, h3⟩ := h
  refine ⟨rfl, by rw [List.length_drop]; omega, fun h0 => ?_⟩
  rw [List.length_drop] at h0
  obtain ⟨ad', e, hc⟩ := h3 (by omega)
  injection e with e
  subst e
  refine ⟨_, rfl, fun j p hj => ?_⟩
  rw [List.getElem?_drop] at hj
  obtain ⟨c, hs, hK2, hcell⟩ := hc (K + j) p hj
  refine ⟨c, hs, hK2, fun i u hu => ?_⟩
  have := hcell i u hu
  rw [add_add_] 
  have e : K * 3 + (j * kAc.sz + i) = (K + j) * kAc.sz + i := by show K * 3 + (j * 3 + i) = (K + j) * 3 + i; omega
  rw [e]
  exact this
/-! ### Set -/
theorem refright_any (c : Int) (w : World) : Calls Try.prog 34 #[.int .i64 c] w fun e w' => e = .returned (.bool (decide (-9007199254740992 ≤ c ∧ c ≤ 9007199254740992))) ∧ w = w' := by
  by_cases h : -9007199254740992 ≤ c
  · go_enter Try.func34, Try.ntmps34
    go_wp2
    go_ret
    refine ⟨?_, rfl⟩
    simp [h]
  · go_enter Try.func34, Try.ntmps34
    go_wp2
    go_ret
    refine ⟨?_, rfl⟩
    have : decide (-9007199254740992 ≤ c) = false := by simp; omega
    simp [this]
theorem own_empty (W : World) (base : Nat) (hb : base ≤ W.heap.size) : (W.alloc (.cells #[] 33)).ownsRow base 33 3 (.slice (some ⟨W.heap.size, 0, none⟩) 0 0) 0 [] :=
  ⟨rfl, .inr ⟨W.heap.size, 0, #[], rfl, hb, heap_alloc_new W _, Nat.le_refl _, Nat.zero_le _, rfl, rfl⟩⟩
theorem ins_keep {W W2 W3 : World} {r c1 K : Nat} {m : List Acct} {A : Option Addr} {v2 : Value} {x : Acct} (hb : Blk W r 52 #[.slice A m.length c1]) (hC : kAc.C W A m.length m)
    (hg2 : (W.alloc (.cells #[] 33)).grownBy W2 (Value.slice (some ⟨W.heap.size, 0, none⟩) 0 0).ownBlock) (hown2 : W2.ownsRow W.heap.size 33 3 v2 K ((m.take K).flatMap encA))
    (hg3 : (W2.alloc (.cells #[.string x.1, .int .i64 x.2.1, .int .i64 x.2.2] 33)).grownBy W3 v2.ownBlock) (hs2 : W.heap.size ≤ W2.heap.size) :
    W3.cell? ⟨r, 0, none⟩ = some (.slice A m.length c1) ∧ kAc.C W3 A m.length m ∧ Blk W3 r 52 #[.slice A m.length c1] ∧ Below W.heap.size W W3 ∧ W.heap.size ≤ W3.heap.size := by
  have h1 : Below W.heap.size W (W.alloc (.cells #[] 33)) := below_alloc (Below.refl _ _) _
  have h2 : Below W.heap.size W W2 := h1.grown hg2 (by simp) (fun k hk => by injection hk with hk; subst hk; exact Nat.le_refl _)
  have h3 : Below W.heap.size W (W2.alloc (.cells #[.string x.1, .int .i64 x.2.1, .int .i64 x.2.2] 33)) := h2.alloc hs2 _
  have h4 : Below W.heap.size W W3 := h3.grown hg3 (Nat.le_trans hs2 (by simp)) (fun k hk => own_base hown2 k hk)
  have hb3 := hb.below h4 hb.lt
  exact ⟨hb3.cell 0, Kd.C_below hC h4, hb3, h4, h4.size⟩
theorem C_dropif {w : World} {A : Option Addr} {l : List Acct} {c1 : Nat} (h : kAc.C w A l.length l) (K : Nat) (hK : K ≤ l.length) (hc : l.length ≤ c1) : kAc.C w (if c1 = K then A else Option.map (fun x => x.add (K * 3)) A) (l.drop K).length (l.drop K) := by
  by_cases e : l.length = K
  · have h0 : l.drop K = [] := List.drop_eq_nil_of_le (by omega)
    rw [h0]
    exact ⟨rfl, Nat.zero_le _, fun h => absurd h (by simp)⟩
  · rw [if_neg (by omega)]
    obtain ⟨ad, e1, _⟩ := h.2.2 (by omega)
    subst e1
    exact C_drop h K hK
theorem own_form {w : World} {base : Nat} {e : TypeId} {s n : Nat} {v : Value} {xs : List Value} (h : w.ownsRow base e s v n xs) : ∃ B cap, v = .slice B n cap := by
  rcases h.2 with ⟨h1, h2⟩ | ⟨g, cap', cur, h1, _⟩
  · exact ⟨none, 0, by rw [h1, h2]⟩
  · exact ⟨_, _, h1⟩
theorem ins_keep2 {W W3 W4 : World} {r base c1 n : Nat} {xs : List Value} {l : Nat} {A : Option Addr} {v3 : Value} (hb : Blk W3 r 52 #[.slice A l c1]) (hr : r < W.heap.size) (hk : Below W.heap.size W W3) (hown3 : W3.ownsRow W.heap.size 33 3 v3 n xs) (hg4 : W3.grownBy W4 v3.ownBlock) (hs3 : W.heap.size ≤ W3.heap.size) :
    Blk W4 r 52 #[.slice A l c1] ∧ Rk W W4 r base := by
  have h4 : Below W.heap.size W W4 := hk.grown hg4 hs3 (fun k h => own_base hown3 k h)
  refine ⟨?_, h4.os, h4.tape, h4.output, h4.size, fun k hk2 _ _ => h4.block k hk2⟩
  unfold Blk at hb ⊢
  rw [h4.block r hr, ← hk.block r hr]
  exact hb
theorem own_far {w w' : World} {r base n : Nat} {cs : Array Value} {v u : Value} {xs : List Value} (hw : w' = w.setCell ⟨r, 0, none⟩ u) (hb : Blk w r 52 cs) (h : w.ownsRow base 33 3 v n xs) : w'.ownsRow base 33 3 v n xs := by
  subst hw
  refine own_move h (fun k hk => Below.heap_setCell _ _ _ _ ?_)
  obtain ⟨cells, hc⟩ := own_typed h k hk
  rintro rfl
  exact ne_types hb hc rfl
theorem Rk.of_self {w w' : World} {r base : Nat} {cs : Array Value} {u : Value} (_ : Blk w r 52 cs) (hw : w' = w.setCell ⟨r, 0, none⟩ u) : Rk w w' r base := by
  subst hw
  exact ⟨rfl, rfl, rfl, by simp [World.setCell], fun k _ hkr _ => Below.heap_setCell _ _ _ _ hkr⟩
set_option maxHeartbeats 8000000 in
set_option maxRecDepth 20000 in
theorem refset_any (r base : Nat) (m : List Acct) (t : ByteArray) (c : Int) (w : World) (hB : Rb w r base m) (hF : Fine m) (hbs : base ≤ w.heap.size) (hc64 : -9223372036854775808 ≤ c ∧ c ≤ 9223372036854775807) :
    Calls Try.prog 25 #[.pointer (some ⟨r, 0, none⟩), .string t, .int .i64 c] w (RefPost r base w (.tuple #[.int .i64 (setS m t c).1, .int .i64 (setS m t c).2.1, .int .i64 (setS m t c).2.2.1]) (setS m t c).2.2.2) := by
  have HB := Lib.hid hB
  have HF := Lib.hid hF
  have HBS := Lib.hid hbs
  clear hB hF hbs
  have hself : Rk w w r base := Rk.of_grown (World.grownBy.refl _ _)
  by_cases hbad : t.size ≠ 8 ∨ c < 0 ∨ 9007199254740992 < c
  · have e : setS m t c = (0, 0, 220, m) := by unfold setS; rw [if_pos hbad]
    have HE := Lib.hid e
    have HBAD := Lib.hid hbad
    have HS := Lib.hid hself
    clear e hbad hself
    go_enter Try.func25, Try.ntmps25
    go_wp2_with fail
    refine (refright_any c w).mono ?_
    rintro e w' ⟨rfl, rfl⟩
    by_cases h1 : (t.size : Int) = 8
    · by_cases h3 : 9007199254740992 < c
      · have hd : decide (-9007199254740992 ≤ c ∧ c ≤ 9007199254740992) = false := by simp; omega
        rw [hd]
        clear hd
        go_wp2
        go_ret3
        exact ⟨by rw [HE.out]; rfl, by rw [HE.out]; exact HB.out, HS.out⟩
      · by_cases h4 : -9007199254740992 ≤ c
        · have hd : decide (-9007199254740992 ≤ c ∧ c ≤ 9007199254740992) = true := by simp; omega
          have h5 : c < 0 := by have := HBAD.out; omega
          rw [hd]
          clear hd
          go_wp2
          go_ret3
          exact ⟨by rw [HE.out]; rfl, by rw [HE.out]; exact HB.out, HS.out⟩
        · have hd : decide (-9007199254740992 ≤ c ∧ c ≤ 9007199254740992) = false := by simp; omega
          rw [hd]
          clear hd
          go_wp2
          go_ret3
          exact ⟨by rw [HE.out]; rfl, by rw [HE.out]; exact HB.out, HS.out⟩
    · go_wp2
      go_ret3
      exact ⟨by rw [HE.out]; rfl, by rw [HE.out]; exact HB.out, HS.out⟩
  · have hd : decide (-9007199254740992 ≤ c ∧ c ≤ 9007199254740992) = true := by simp; omega
    have h1 : (t.size : Int) = 8 := by omega
    have h2 : 0 ≤ c := by omega
    have h3 : c ≤ 9007199254740992 := by omega
    have hat := HF.out.at t
    clear hself
    go_enter Try.func25, Try.ntmps25
    go_wp2_with fail
    refine (refright_any c w).mono ?_
    rw [hd]
    rintro e w' ⟨rfl, rfl⟩
    clear hd
    have HBAD := Lib.hid hbad
    clear hbad
    go_wp2_with fail
    refine (place_any r base m t w HB.out HF.out.rise).mono ?_
    rintro e W ⟨K, rfl, hS, nn, hw⟩
    have hg1 : w.grownBy W none := by rw [hw]; exact grown_drewN _ _ _
    have HS := Lib.hid hS
    have hzz : w.heap.size ≤ W.heap.size := hg1.size
    replace HB := Lib.hid (HB.out.kept hg1)
    have HK := Lib.hid (Rk.of_grown (r := r) (base := base) hg1)
    replace HBS := Lib.hid (Nat.le_trans HBS.out hzz)
    clear hw hg1 hS hzz
    have hmax := HF.out.few
    cases hi : isS m t
    · obtain ⟨k1, k2⟩ := not_is hi
      by_cases h5 : (m.length : Int) ≥ 1000
      · have e : setS m t c = (0, 0, 2, m) := by unfold setS; rw [if_neg HBAD.out, if_pos ⟨hi, by omega⟩]
        have HE := Lib.hid e
        obtain ⟨A, c1, hblk, hc1, hC, hrow⟩ := HB.out.opened
        have x0 : W.cell? ⟨r, 0, none⟩ = some (.slice A m.length c1) := hblk.cell 0
        clear e k1 k2 hat hblk hC hrow
        go_wp2
        go_ret3
        exact ⟨by rw [HE.out]; rfl, by rw [HE.out]; exact HB.out, HK.out⟩
      · have hno : ∀ hK : K < m.length, m[K].1 ≠ t := fun hK e => by
          have := (HS.out.is HF.out.rise).2 ⟨hK, e⟩
          rw [hi] at this
          cases this
        have e : setS m t c = (c - 0, 0 - min 0 c, 0, m.take K ++ (t, c, min 0 c) :: m.drop K) := by
          unfold setS
          rw [if_neg HBAD.out, if_neg (by omega), k1, k2, HS.out.put_not HF.out.rise hno]
        obtain ⟨A, c1, hblk, hc1, hC, hrow⟩ := HB.out.opened
        have x0 : W.cell? ⟨r, 0, none⟩ = some (.slice A m.length c1) := hblk.cell 0
        have hKm : K ≤ m.length := HS.out.le
        have HE0 := Lib.hid e
        have HNO := Lib.hid hno
        have HBL := Lib.hid hblk
        have HC := Lib.hid hC
        have HRW := Lib.hid hrow
        clear e k1 k2 hat hblk hC hrow hno HB
        have hf : ¬ (m.length : Int) ≥ 1000 := h5
        have x1 : ∀ o, (W.alloc o).cell? ⟨r, 0, none⟩ = some (.slice A m.length c1) := fun o => (HBL.out.alloc o).cell 0
        have g1 : (K : Int) ≤ (m.length : Int) := by omega
        have g2 : (K : Int) ≤ (c1 : Int) := by omega
        have hlk : (m.take K).length = K := by rw [List.length_take]; omega
        have HLK := Lib.hid hlk
        clear hlk
        obtain ⟨i0, hi0, hz0, hz1, hz2⟩ := info_parts info33
        go_wp2_with (first
          | (at_builtin; refine wpList_append_C _ rfl _ _ rfl W.heap.size _ 0 [] rfl (own_empty W W.heap.size (Nat.le_refl _)) A c1 (m.take K) K HLK.out rfl (C_take (Kd.C_alloc HC.out _) K HS.out.le) (by rw [HLK.out]; omega) (by simp) ⟨_, _, rfl⟩ ?_; intro v2 W2 hown2 hg2; rw [Nat.zero_add, HLK.out, List.nil_append] at hown2; have hs2 : W.heap.size ≤ W2.heap.size := Nat.le_trans (by simp) hg2.size)
          | (at_builtin; refine wpList_append_own _ rfl _ _ 40 rfl W.heap.size 33 i0 (.agg #[.string ⟨#[]⟩, .int .i64 0, .int .i64 0]) 3 32 Try.underlying40 hi0 hz0 hz1 hz2 rfl (by decide) _ _ _ rfl (hown2.alloc _) ⟨W2.heap.size, 0, none⟩ 1 1 (encA (t, 0, 0)) rfl rfl (cells_new W2 33 (t, 0, 0)) (encA_one _) (by unfold maxLen; omega) (by omega) (Nat.le_trans hs2 (by simp)) ?_; intro v3 W3 hown3 hg3 _;
              have hx3 : W3.cell? ⟨r, 0, none⟩ = some (.slice A m.length c1) ∧ kAc.C W3 A m.length m ∧ Blk W3 r 52 #[.slice A m.length c1] ∧ Below W.heap.size W W3 ∧ W.heap.size ≤ W3.heap.size := ins_keep (x := (t, 0, 0)) HBL.out HC.out hg2 hown2 hg3 hs2; obtain ⟨x3, hC3, hBL3, hK3, hs3⟩ := hx3)
          | (at_builtin; refine wpList_append_C _ rfl _ _ rfl W.heap.size v3 (K + 1) ((m.take K).flatMap encA ++ encA (t, 0, 0)) rfl hown3 _ (c1 - K) (m.drop K) (m.length - K) (by simp) rfl (C_dropif hC3 K HS.out.le hc1) (by rw [List.length_drop]; omega) hs3 (own_form hown3) ?_; intro v4 W4 hown4 hg4; refine Hid.out ?_))
        all_goals
          obtain ⟨B4, cap4, rfl⟩ := own_form hown4
          obtain ⟨m1, hm1⟩ : ∃ x, x = m.take K ++ (t, 0, 0) :: m.drop K := ⟨_, rfl⟩
          have hl1 : m1.length = K + 1 + (m.drop K).length := by rw [hm1]; simp; omega
          have hflat : m1.flatMap encA = (m.take K).flatMap encA ++ encA (t, 0, 0) ++ (m.drop K).flatMap encA := by rw [hm1]; simp
          rw [← hl1, ← hflat] at hown4
          rw [← hl1]
          have hK1 : K < m1.length := by omega
          obtain ⟨ch, hch⟩ : ∃ x : Int, x = 0 := ⟨_, rfl⟩
          obtain ⟨pa, hpa⟩ : ∃ x : Int, x = 0 := ⟨_, rfl⟩
          obtain ⟨back, hbk⟩ : ∃ x, x = pa - min pa c := ⟨_, rfl⟩
          have HX := Lib.hid (show m1[K] = (t, ch, pa) by subst hm1; simp [HLK.out, hch, hpa])
          obtain ⟨hBL4, hK4⟩ := ins_keep2 (r := r) (base := base) hBL3 HBL.out.lt hK3 hown3 hg4 hs3
          replace hown4 := own_weaken hown4 HBS.out
          have hfz4 := hBL4.frozen 0
          have z0 := hBL4.cell 0
          simp at z0
          have e : setS m t c = (c - ch, back, 0, m1.set K (t, c, pa - back)) := by
            rw [HE0.out, hm1, hbk, hch, hpa, show (0 : Int) - (0 - min 0 c) = min 0 c by omega, List.set_append_right _ _ (by rw [HLK.out]; exact Nat.le_refl _), HLK.out, Nat.sub_self]
            rfl
          have HE := Lib.hid e
          have HWW := Lib.hid (show wrap64 (c - ch) = c - ch ∧ wrap64 (pa - c) = pa - c from ⟨wrap_id (by omega), wrap_id (by omega)⟩)
          have HWW3 := Lib.hid (show wrap64 (pa - back) = pa - back from wrap_id (by omega))
          obtain ⟨W5, hW5⟩ : ∃ W, W = W4.setCell ⟨r, 0, none⟩ (.slice B4 m1.length cap4) := ⟨_, rfl⟩
          have hrb : Blk W5 r 52 #[.slice B4 m1.length cap4] ∧ W5.ownsRow base 33 3 (.slice B4 m1.length cap4) m1.length (m1.flatMap encA) := ⟨by rw [hW5]; exact hBL4.set 0 _, own_far hW5 hBL4 hown4⟩
          have HB := Lib.hid hrb
          replace HK := Lib.hid ((HK.out.trans hK4).trans (Rk.of_self hBL4 hW5))
          have HW5 := Lib.hid hW5
          have HOF := Lib.hid (show ∀ o, W5.cell? o = (W4.setCell ⟨r, 0, none⟩ (.slice B4 m1.length cap4)).cell? o by intro o; rw [hW5])
          have HOZ := Lib.hid (show ∀ o, W5.frozen? o = (W4.setCell ⟨r, 0, none⟩ (.slice B4 m1.length cap4)).frozen? o by intro o; rw [hW5])
          clear hm1 hW5 hrb e hch hpa hl1 hflat hown4 hown3 hown2 hg2 hg3 hg4 x3 hC3 hBL3 hK3 x0 x1
          refine Lib.hid ?_
          obtain ⟨hblk, hrow⟩ := HB.out
          obtain ⟨A, cq, e5, hc1, hC⟩ := C_all (d := kAc) kAc_mk rfl hrow
          simp only [Value.slice.injEq] at e5
          obtain ⟨e5a, _, e5c⟩ := e5
          subst e5a
          subst e5c
          obtain ⟨ad, e0, hx0, hx1, hx2⟩ := at_ac hC hK1
          subst e0
          have hl : m1.length ≤ 9223372036854775807 := hC.2.1
          rw [HX.out] at hx0 hx1 hx2
          simp only at hx0 hx1 hx2
          have hKl : (K : Int) < (m1.length : Int) := by omega
          have x0 : W5.cell? ⟨r, 0, none⟩ = some (.slice (some ad) m1.length cap4) := hblk.cell 0
          obtain ⟨hfz, hrow2, hg3, hbb, cells, hcl⟩ := row_write hrow K 1 (.int .i64 c) (t, c, pa) hK1 (by decide) (by rw [HX.out]; rfl)
          have HBL := Lib.hid hblk
          have HCL := Lib.hid hcl
          obtain ⟨W1, hW1⟩ : ∃ W1, W1 = W5.setCell ⟨(ad.add (K * 3)).block, (ad.add (K * 3)).off + 1, none⟩ (.int .i64 c) := ⟨_, rfl⟩
          rw [← hW1] at hrow2 hg3
          have HW1 := Lib.hid hW1
          have HR2 := Lib.hid hrow2
          have HG3 := Lib.hid hg3
          have HBB := Lib.hid hbb
          clear hW1 hrow2 hg3 hbb hblk hC hrow hc1 hcl
          have hmx : max 0 (pa - c) = back := by rw [hbk]; omega
          have hww1 : wrap64 (c - ch) = c - ch := HWW.out.1
          have hww2 : wrap64 (pa - c) = pa - c := HWW.out.2
          have HBK := Lib.hid hbk
          clear hbk
          rw [HOF.out] at x0 hx0 hx1 hx2
          rw [HOZ.out] at hfz
          go_wp2_with fail
          rw [← HW5.out]
          rw [← HW1.out]
          have hne : r ≠ ad.block := ne_types HBL.out HCL.out
          have hl2 : (m1.set K (t, c, pa)).length = m1.length := List.length_set ..
          have hrow3 : W1.ownsRow base 33 3 (.slice (some ad) (m1.set K (t, c, pa)).length cap4) (m1.set K (t, c, pa)).length ((m1.set K (t, c, pa)).flatMap encA) := by rw [hl2]; exact HR2.out
          have hblk2 : Blk W1 r 52 #[.slice (some ad) m1.length cap4] := by rw [HW1.out]; exact HBL.out.far (by rw [add_block]; exact hne) _
          obtain ⟨A2, c2, e2, _, hC2⟩ := C_all (d := kAc) kAc_mk rfl hrow3
          simp only [Value.slice.injEq] at e2
          obtain ⟨e2a, _, _⟩ := e2
          subst e2a
          obtain ⟨ad2, e3, _, _, hy2⟩ := at_ac hC2 (show K < (m1.set K (t, c, pa)).length by omega)
          injection e3 with e3
          subst e3
          have hy2 : W1.cell? ⟨(ad.add (K * 3)).block, (ad.add (K * 3)).off + 2, none⟩ = some (.int .i64 pa) := by rw [hy2]; simp
          obtain ⟨hfz2, hrow4, hg4, hbb2, cells2, hcl2⟩ := row_write hrow3 K 2 (.int .i64 (pa - back)) (t, c, pa - back) (by omega) (by decide) (by simp [encA])
          have y0 : W1.cell? ⟨r, 0, none⟩ = some (.slice (some ad) m1.length cap4) := hblk2.cell 0
          have HB2 := Lib.hid hblk2
          have HR4 := Lib.hid hrow4
          have HG4 := Lib.hid hg4
          have HCL2 := Lib.hid hcl2
          have hww3 : wrap64 (pa - back) = pa - back := HWW3.out
          clear hrow3 hC2 hrow4 hg4 hcl2 hblk2 x0 hx0 hx1 hx2 hfz hbb2 HW1 hww1 hww2 hmx
          go_wp2_with fail
          go_region
          go_wp2
          go_ret3
          have hset : (m1.set K (t, c, pa)).set K (t, c, pa - back) = m1.set K (t, c, pa - back) := by rw [List.set_set]
          refine ⟨by rw [HE.out]; first | rfl | (rw [HWW.out.1]; rfl), ?_, ?_⟩
          · rw [HE.out]
            refine ⟨.slice (some ad) m1.length cap4, HB2.out.far (by rw [add_block]; exact hne) _, ?_⟩
            show (W1.setCell _ _).ownsRow base 33 3 _ (m1.set K (t, c, pa - back)).length ((m1.set K (t, c, pa - back)).flatMap encA)
            have := HR4.out
            rw [hset] at this
            simpa using this
          · have h := (HK.out.trans (Rk.of_write HG3.out HBB.out HCL.out)).trans (Rk.of_write HG4.out HBB.out HCL2.out)
            exact ⟨h.os, h.tape, h.output, h.size, h.block⟩
    · obtain ⟨hK1, he⟩ := (HS.out.is HF.out.rise).1 hi
      have hh := HS.out.here HF.out.rise hK1 he
      obtain ⟨ch, hch⟩ : ∃ x, x = chS m t := ⟨_, rfl⟩
      obtain ⟨pa, hpa⟩ : ∃ x, x = paS m t := ⟨_, rfl⟩
      have hx : m[K] = (t, ch, pa) := by
        rw [hch, hpa]
        unfold chS paS
        rw [hh]
        show m[K] = (t, m[K].2.1, m[K].2.2)
        rw [← he]
      obtain ⟨back, hbk⟩ : ∃ x, x = pa - min pa c := ⟨_, rfl⟩
      have e : setS m t c = (c - ch, back, 0, m.set K (t, c, pa - back)) := by
        unfold setS
        rw [if_neg HBAD.out, if_neg (by rw [hi]; simp), ← hch, ← hpa, HS.out.put_is HF.out.rise hK1 he, hbk, show pa - (pa - min pa c) = min pa c by omega]
      rw [← hch, ← hpa] at hat
      have HWW := Lib.hid (show wrap64 (c - ch) = c - ch ∧ wrap64 (pa - c) = pa - c from ⟨wrap_id (by omega), wrap_id (by omega)⟩)
      have HWW3 := Lib.hid (show wrap64 (pa - back) = pa - back from wrap_id (by omega))
      have HX := Lib.hid hx
      have HE := Lib.hid e
      obtain ⟨m1, hm1⟩ : ∃ x, x = m := ⟨_, rfl⟩
      clear e he hh hch hpa hat hx
      subst hm1
      obtain ⟨A, c1, hblk, hc1, hC, hrow⟩ := HB.out.opened
      obtain ⟨ad, e0, hx0, hx1, hx2⟩ := at_ac hC hK1
      subst e0
      have hl : m1.length ≤ 9223372036854775807 := hC.2.1
      rw [HX.out] at hx0 hx1 hx2
      simp only at hx0 hx1 hx2
      have hKl : (K : Int) < (m1.length : Int) := by omega
      have x0 : W.cell? ⟨r, 0, none⟩ = some (.slice (some ad) m1.length c1) := hblk.cell 0
      obtain ⟨hfz, hrow2, hg3, hbb, cells, hcl⟩ := row_write hrow K 1 (.int .i64 c) (t, c, pa) hK1 (by decide) (by rw [HX.out]; rfl)
      have HBL := Lib.hid hblk
      have HCL := Lib.hid hcl
      obtain ⟨W1, hW1⟩ : ∃ W1, W1 = W.setCell ⟨(ad.add (K * 3)).block, (ad.add (K * 3)).off + 1, none⟩ (.int .i64 c) := ⟨_, rfl⟩
      rw [← hW1] at hrow2 hg3
      have HW1 := Lib.hid hW1
      have HR2 := Lib.hid hrow2
      have HG3 := Lib.hid hg3
      have HBB := Lib.hid hbb
      clear hW1 hrow2 hg3 hbb hblk hC hrow hc1 hcl
      have hmx : max 0 (pa - c) = back := by rw [hbk]; omega
      have hww1 : wrap64 (c - ch) = c - ch := HWW.out.1
      have hww2 : wrap64 (pa - c) = pa - c := HWW.out.2
      have HBK := Lib.hid hbk
      clear hbk
      go_wp2_with fail
      rw [← HW1.out]
      have hne : r ≠ ad.block := ne_types HBL.out HCL.out
      have hl2 : (m1.set K (t, c, pa)).length = m1.length := List.length_set ..
      have hrow3 : W1.ownsRow base 33 3 (.slice (some ad) (m1.set K (t, c, pa)).length c1) (m1.set K (t, c, pa)).length ((m1.set K (t, c, pa)).flatMap encA) := by rw [hl2]; exact HR2.out
      have hblk2 : Blk W1 r 52 #[.slice (some ad) m1.length c1] := by rw [HW1.out]; exact HBL.out.far (by rw [add_block]; exact hne) _
      obtain ⟨A2, c2, e2, _, hC2⟩ := C_all (d := kAc) kAc_mk rfl hrow3
      simp only [Value.slice.injEq] at e2
      obtain ⟨e2a, _, _⟩ := e2
      subst e2a
      obtain ⟨ad2, e3, _, _, hy2⟩ := at_ac hC2 (show K < (m1.set K (t, c, pa)).length by omega)
      injection e3 with e3
      subst e3
      have hy2 : W1.cell? ⟨(ad.add (K * 3)).block, (ad.add (K * 3)).off + 2, none⟩ = some (.int .i64 pa) := by rw [hy2]; simp
      obtain ⟨hfz2, hrow4, hg4, hbb2, cells2, hcl2⟩ := row_write hrow3 K 2 (.int .i64 (pa - back)) (t, c, pa - back) (by omega) (by decide) (by simp [encA])
      have y0 : W1.cell? ⟨r, 0, none⟩ = some (.slice (some ad) m1.length c1) := hblk2.cell 0
      have HB2 := Lib.hid hblk2
      have HR4 := Lib.hid hrow4
      have HG4 := Lib.hid hg4
      have HCL2 := Lib.hid hcl2
      have hww3 : wrap64 (pa - back) = pa - back := HWW3.out
      clear hrow3 hC2 hrow4 hg4 hcl2 hblk2 x0 hx0 hx1 hx2 hfz hbb2 HW1 hww1 hww2 hmx
      go_wp2_with fail
      go_region
      go_wp2
      go_ret3
      have hset : (m1.set K (t, c, pa)).set K (t, c, pa - back) = m1.set K (t, c, pa - back) := by rw [List.set_set]
      refine ⟨by rw [HE.out]; first | rfl | (rw [HWW.out.1]; rfl), ?_, ?_⟩
      · rw [HE.out]
        refine ⟨.slice (some ad) m1.length c1, HB2.out.far (by rw [add_block]; exact hne) _, ?_⟩
        show (W1.setCell _ _).ownsRow base 33 3 _ (m1.set K (t, c, pa - back)).length ((m1.set K (t, c, pa - back)).flatMap encA)
        have := HR4.out
        rw [hset] at this
        simpa using this
      · have h := (HK.out.trans (Rk.of_write HG3.out HBB.out HCL.out)).trans (Rk.of_write HG4.out HBB.out HCL2.out)
        exact ⟨h.os, h.tape, h.output, h.size, h.block⟩
end Go.Proofs.Ytbfpggghcdfghaa.Hand
