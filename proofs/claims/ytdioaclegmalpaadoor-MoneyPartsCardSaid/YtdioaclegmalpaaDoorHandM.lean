/- MoneyParts, walked. -/
import Derived.Test.YtdioaclegmalpaaDoorHandI
namespace Go.Proofs.YtdioaclegmalpaaDoor.Hand
open Go.RowKit Go.Sort Go.Lib Go.Proofs.YtdioaclegmalpaaDoorW.PrintWords Go.Proofs.YtdioaclegmalpaaDoor.XA

theorem rs_j0 (k : Nat) (a p : Int) (b : Bool) : fareboxref05_Split.j0 (k + 1) a p b = if b = true then (some (([] : List Int), 50)) else (if p < 1 then (fareboxref05_Split.j1 k a p true) else (fareboxref05_Split.j1 k a p (decide (p > 1000)))) := by rw [fareboxref05_Split.j0]
theorem rs_j1 (k : Nat) (a p : Int) (b : Bool) : fareboxref05_Split.j1 (k + 1) a p b = if b = true then (some (([] : List Int), 1)) else (fareboxref05_Split.l0 k a p ([] : List Int) 0) := by rw [fareboxref05_Split.j1]
theorem rs_l0 (k : Nat) (a p : Int) (acc : List Int) (i : Int) : fareboxref05_Split.l0 (k + 1) a p acc i = if i < p then (if p = 0 then (none) else (if i < (Int.tmod a p) then (if acc.length < 17592186044416 then (fareboxref05_Split.l0 k a p (acc ++ [wrap64 ((wrap64 (Int.tdiv a p)) + 1)]) (wrap64 (i + 1))) else (none)) else (if acc.length < 17592186044416 then (fareboxref05_Split.l0 k a p (acc ++ [wrap64 (Int.tdiv a p)]) (wrap64 (i + 1))) else (none)))) else (some (acc, 0)) := by rw [fareboxref05_Split.l0]
def partsL (n p : Nat) : List Int := (List.range p).map (partN n p)
theorem rs_loop (n p : Nat) (hn : n ≤ 9007199254740992) (hp : 1 ≤ p) (hp2 : p ≤ 1000) : ∀ (m i : Nat) (acc : List Int), i + m = p → acc.length = i → fareboxref05_Split.l0 (m + 1) n p acc i = some (acc ++ (List.range' i m).map (partN n p), 0)
  | 0, i, acc, h, _ => by
    rw [rs_l0, if_neg (by omega)]
    simp
  | m + 1, i, acc, h, hl => by
    have e3 : wrap64 ((i : Int) + 1) = ((i + 1 : Nat) : Int) := by rw [wrap_ok _ (by omega)]; rfl
    have hq : (n : Int).tdiv p = ((n / p : Nat) : Int) := by rw [Int.tdiv_eq_ediv_of_nonneg (by omega), Int.natCast_ediv]
    have hr : (n : Int).tmod p = ((n % p : Nat) : Int) := by rw [Int.tmod_eq_emod_of_nonneg (by omega), Int.natCast_emod]
    have hle := Nat.div_le_self n p
    have ih := fun acc' h' => rs_loop n p hn hp hp2 m (i + 1) acc' (by omega) h'
    have hal : acc.length < 17592186044416 := by rw [hl]; omega
    have c1 : (i : Int) < (p : Int) := by omega
    have c2 : ¬ (p : Int) = 0 := by omega
    rw [rs_l0, if_pos c1, if_neg c2, hq, hr, e3]
    have hpart : partN n p i = ((n / p + if i < n % p then 1 else 0 : Nat) : Int) := rfl
    have w1 : wrap64 ((n / p : Nat) : Int) = ((n / p : Nat) : Int) := wrap_ok _ (by generalize n / p = q at hle ⊢; omega)
    have w2 : wrap64 (((n / p : Nat) : Int) + 1) = ((n / p + 1 : Nat) : Int) := by rw [wrap_ok _ (by generalize n / p = q at hle ⊢; omega)]; rfl
    rw [w1, w2, List.range'_succ, List.map_cons]
    by_cases hc : i < n % p
    · have hc' : (i : Int) < ((n % p : Nat) : Int) := Int.ofNat_lt.2 hc
      rw [if_pos hc] at hpart
      rw [if_pos hc', if_pos hal, ih _ (by rw [List.length_append, hl]; rfl), hpart, List.append_assoc]
      rfl
    · have hc' : ¬ (i : Int) < ((n % p : Nat) : Int) := fun h => hc (Int.ofNat_lt.1 h)
      rw [if_neg hc] at hpart
      rw [if_neg hc', if_pos hal, ih _ (by rw [List.length_append, hl]; rfl), hpart, List.append_assoc]
      rfl
theorem rsplit_f (n p : Nat) (hn : n ≤ 9007199254740992) (hp : 1 ≤ p) (hp2 : p ≤ 1000) : fareboxref05_Split.f (p + 3) n p = some (partsL n p, 0) := by
  unfold fareboxref05_Split.f
  have hq : rightS n = true := decide_eq_true (by omega)
  rw [rright_f, hq]
  show (if true = true then fareboxref05_Split.j0 (p + 2 + 1) n p (decide ((n : Int) < 0)) else fareboxref05_Split.j0 (p + 2 + 1) n p true) = _
  rw [if_pos rfl, decide_eq_false (by omega), rs_j0, if_neg (by decide), if_neg (by omega), rs_j1, decide_eq_false (by omega), if_neg (by decide)]
  have := rs_loop n p hn hp hp2 p 0 [] (by omega) rfl
  rw [← List.range_eq_range', List.nil_append] at this
  exact this
theorem rsplit_no (n p : Int) (h : n < 0 ∨ 9007199254740992 < n) : fareboxref05_Split.f 3 n p = some ([], 50) := by
  unfold fareboxref05_Split.f
  rw [rright_f]
  show (if rightS n = true then fareboxref05_Split.j0 (2 + 1) n p (decide (n < 0)) else fareboxref05_Split.j0 (2 + 1) n p true) = _
  by_cases hq : rightS n = true
  · have hn : n < 0 := by
      unfold rightS at hq
      have := of_decide_eq_true hq
      omega
    rw [if_pos hq, rs_j0, if_pos (decide_eq_true hn)]
  · rw [if_neg hq, rs_j0, if_pos rfl]
theorem rsplit_arg (n p : Int) (h0 : ¬ n < 0) (h1 : n ≤ 9007199254740992) (hp : p < 1 ∨ 1000 < p) : fareboxref05_Split.f 3 n p = some ([], 1) := by
  unfold fareboxref05_Split.f
  have hq : rightS n = true := decide_eq_true (by omega)
  rw [rright_f, hq]
  show (if true = true then fareboxref05_Split.j0 (2 + 1) n p (decide (n < 0)) else fareboxref05_Split.j0 (2 + 1) n p true) = _
  rw [if_pos rfl, decide_eq_false h0, rs_j0, if_neg (by decide)]
  by_cases h2 : p < 1
  · rw [if_pos h2, rs_j1, if_pos rfl]
  · rw [if_neg h2, rs_j1, if_pos (decide_eq_true (by omega))]
/-- The first k parts together. -/
def sumK (n p k : Nat) : Nat := k * (n / p) + min k (n % p)
theorem sum_next (n p k : Nat) : ((sumK n p (k + 1) : Nat) : Int) = (sumK n p k : Nat) + partN n p k := by
  unfold sumK partN
  rw [Nat.succ_mul]
  generalize k * (n / p) = x
  generalize n / p = q
  split <;> omega
theorem sum_all (n p : Nat) (hp : 1 ≤ p) : sumK n p p = n := by
  unfold sumK
  have h1 := Nat.div_add_mod n p
  have h2 := Nat.mod_lt n hp
  rw [Nat.min_eq_right (Nat.le_of_lt h2)]
  exact h1
theorem sum_le (n p k : Nat) (hp : 1 ≤ p) (hk : k ≤ p) : sumK n p k ≤ n := by
  have h := sum_all n p hp
  unfold sumK at h ⊢
  have h2 := Nat.mul_le_mul_right (n / p) hk
  generalize k * (n / p) = x at h2 ⊢
  generalize p * (n / p) = y at h h2
  omega
theorem part_fall (n p k : Nat) : partN n p (k + 1) ≤ partN n p k ∧ partN n p 0 - 1 ≤ partN n p k := by
  unfold partN
  generalize n / p = q
  split <;> split <;> (try split) <;> omega
theorem part_bound (n p k : Nat) (hn : n ≤ 9007199254740992) : 0 ≤ partN n p k ∧ partN n p k ≤ 9007199254740993 := by
  unfold partN
  have := Nat.div_le_self n p
  generalize n / p = q at this ⊢
  split <;> omega

/-- What the document's Split leaves. -/
theorem rsplit_k (n p : Nat) (hn : n ≤ 9007199254740992) (hp : 1 ≤ p) (hp2 : p ≤ 1000) (w : World) : Calls Tryd.prog 18 #[.int .i64 n, .int .i64 p] w fun e w' => ∃ g cap cur, w.heap.size ≤ g ∧ e = .returned (.tuple #[.slice (some ⟨g, 0, none⟩) p cap, .int .i64 0]) ∧ Blk w' g 3 cur ∧ (∀ j, j < p → cur[j]? = some (.int .i64 (partN n p j))) ∧ Kept w w' := by
  refine (fareboxref05_Split.calls (p + 3) n p _ _ w (rsplit_f n p hn hp hp2)).mono fun e w' ⟨v0, he, hR, hb⟩ => ?_
  obtain ⟨_, inner, ho, hrep⟩ := hR
  have hlen : (partsL n p).length = p := by simp [partsL]
  rw [hlen] at ho
  rcases ho.2 with ⟨_, h0⟩ | ⟨g, cap, cur, hv, hg, hh, _, _, hs, ht⟩
  · omega
  · refine ⟨g, cap, cur, hg, by rw [he, hv], hh, fun j hj => ?_, hb⟩
    have hj2 : (partsL n p)[j]? = some (partN n p j) := by simp [partsL, hj]
    have hK := hrep.2 j _ hj2
    have es : Kd.sz (Kd.int .i64) = 1 := rfl
    rw [es, Nat.mul_one] at hK
    have hc1 : (inner.drop j).take 1 = [.int .i64 (partN n p j)] := hK
    rw [es, Nat.mul_one] at ht
    have hin : inner[j]? = some (.int .i64 (partN n p j)) := by
      have h0 : ((inner.drop j).take 1)[0]? = some (.int .i64 (partN n p j)) := by rw [hc1]; rfl
      rw [List.getElem?_take, List.getElem?_drop] at h0
      simpa using h0
    rw [← ht, List.getElem?_take, if_pos hj] at hin
    simpa using hin

theorem own_nil3 (w : World) (base : Nat) : w.ownsRow base 3 1 (.slice none 0 0) 0 [] := ⟨rfl, Or.inl ⟨rfl, rfl⟩⟩
set_option maxHeartbeats 8000000 in
set_option maxRecDepth 20000 in
theorem parts_bad (n p x : Int) (hx : ¬ x = 0) (z : World) (L : Laid z) (w : World) (hz : Kept z w)
    (S : ∀ w, Kept z w → Calls Tryd.prog 17 #[.int .i64 n, .int .i64 p] w fun e w' => e = .returned (.tuple #[.slice none 0 0, .int .i64 x]) ∧ Kept z w')
    (R : ∀ w, Kept z w → Calls Tryd.prog 18 #[.int .i64 n, .int .i64 p] w fun e w' => ∃ A c, e = .returned (.tuple #[.slice A 0 c, .int .i64 x]) ∧ Kept z w') :
    Calls Tryd.prog 5 #[.int .i64 n, .int .i64 p] w fun e w' => e = .returned (.bool true) ∧ Kept z w' := by
  obtain ⟨i0, hi, hz0, hz1, hz2⟩ := info_parts info3s
  have AW := awake_any z L w hz
  clear L hz
  go_enter Tryd.func5, Tryd.ntmps5
  go_wp2_with fail
  refine AW.mono ?_
  rintro e w1 ⟨rfl, hz1'⟩
  clear AW
  go_wp2_with fail
  refine (S _ hz1').mono ?_
  rintro e w2 ⟨rfl, hz2'⟩
  go_wp2_with fail
  refine (S _ hz2').mono ?_
  rintro e w3 ⟨rfl, hz3'⟩
  go_wp2_with fail
  refine (R _ hz3').mono ?_
  rintro e w4 ⟨A, c, rfl, hz4'⟩
  clear S R hz1' hz2' hz3'
  go_wp2_with fail
  refine wp_loop_rounds 1 ?_
  rw [rounds_succ]
  go_wp2_with fail
  refine wp_loop_rounds 1 ?_
  rw [rounds_succ]
  have hnil : w4.ownsRow w4.heap.size 3 1 (.slice none 0 0) 0 [] := own_nil3 _ _
  have hnil2 : ∀ o, (w4.alloc o).ownsRow w4.heap.size 3 1 (.slice none 0 0) 0 [] := fun o => own_nil3 _ _
  have hz5 : ∀ o, Kept z (w4.alloc o) := fun o => hz4'.then ((Below.refl _ _).alloc (Nat.le_refl _) _)
  have hnew : ∀ j u, ([Value.int .i64 (-8)] : List Value)[j]? = some u → (w4.alloc (.cells #[.int .i64 (-8)] 3)).cell? ((⟨w4.heap.size, 0, none⟩ : Addr).add j) = some u := by
    intro j u hu
    match j, hu with
    | 0, hu =>
      have e : ((⟨w4.heap.size, 0, none⟩ : Addr).add 0) = ⟨w4.heap.size, 0, none⟩ := rfl
      rw [e, World.cell?_alloc_at _ _ _ _ rfl]
      simpa using hu
  go_wp2_with (at_builtin; refine wpList_append_own _ rfl (.tmp 118) (.tmp 119) 30 rfl w4.heap.size 3 i0 (.int .i64 0) 1 8 Tryd.underlying30 hi hz0 hz1 hz2 rfl (by decide) _ 0 [] rfl (hnil2 _) ⟨w4.heap.size, 0, none⟩ 1 1 [.int .i64 (-8)] rfl rfl hnew (by intro u hu; simp at hu; subst hu; rfl) (by decide) (by decide) (by simp) ?_; intro v' w5 hown hgr _)
  have hz6 : Kept z w5 := (hz5 _).then ((Below.refl _ _).grown hgr (Nat.le_refl _) (fun k hk => by cases hk))
  clear hnil hnil2 hz5 hnew hgr hz4'
  rcases hown.2 with ⟨_, h0⟩ | ⟨g, cap, cur, rfl, _⟩
  · exact absurd h0 (by decide)
  clear hown
  refine wp_loop_rounds 1 ?_
  rw [rounds_succ]
  go_wp2_with fail
  go_ret
  exact ⟨by simp, hz6⟩

set_option maxHeartbeats 8000000 in
set_option maxRecDepth 20000 in
theorem parts_good (n p : Nat) (hn : n ≤ 9007199254740992) (hp : 1 ≤ p) (hp2 : p ≤ 1000) (z : World) (L : Laid z) (w : World) (hz : Kept z w) :
    Calls Tryd.prog 5 #[.int .i64 n, .int .i64 p] w fun e w' => e = .returned (.bool true) ∧ Kept z w' := by
  obtain ⟨i0, hi, hz0, hz1, hz2⟩ := info_parts info3s
  have AW := awake_any z L w hz
  have S := fun w => split_ok n p hn hp hp2 w
  have R := fun w => rsplit_k n p hn hp hp2 w
  have hsum := sum_all n p hp
  have HN := Lib.hid hn
  have HP := Lib.hid hp
  have HP2 := Lib.hid hp2
  clear L hz hn hp hp2
  go_enter Tryd.func5, Tryd.ntmps5
  go_wp2_with fail
  refine AW.mono ?_
  rintro e w1 ⟨rfl, hk1⟩
  clear AW
  go_wp2_with fail
  refine (S _).mono ?_
  rintro e w2 ⟨g1, hg1, rfl, hb1, hk2⟩
  go_wp2_with fail
  refine (S _).mono ?_
  rintro e w3 ⟨g2, hg2, rfl, hb2, hk3⟩
  go_wp2_with fail
  refine (R _).mono ?_
  rintro e w4 ⟨g3, cap, cur, hg3, rfl, hb3, hcur, hk4⟩
  have l1 : g1 < g2 := Nat.lt_of_lt_of_le hb1.lt hg2
  have l2 : g2 < g3 := Nat.lt_of_lt_of_le hb2.lt hg3
  have B1 : Blk w4 g1 3 (partsV n p p) := (hb1.below hk3 hb1.lt).below hk4 (Nat.lt_of_lt_of_le hb1.lt hk3.size)
  have B2 : Blk w4 g2 3 (partsV n p p) := hb2.below hk4 hb2.lt
  have KZ : Kept z w4 := ((hk1.then hk2).then hk3).then hk4
  have gz : z.heap.size ≤ g1 := Nat.le_trans hk1.size hg1
  have HB1 := Lib.hid B1
  have HB2 := Lib.hid B2
  have HB3 := Lib.hid hb3
  have HKZ := Lib.hid KZ
  have HGZ := Lib.hid gz
  have HL1 := Lib.hid l1
  have HL2 := Lib.hid l2
  have HC := Lib.hid hcur
  have HS := Lib.hid hsum
  clear S R hb1 hb2 hb3 hk1 hk2 hk3 hk4 hg1 hg2 hg3 B1 B2 KZ gz l1 l2 hcur hsum
  go_wp2_with fail
  go_loopw [12, 13] (fun v12 v13 wr => ∃ k : Nat, v12 = .int .i64 (sumK n p k : Nat) ∧ v13 = .int .i64 k ∧ k ≤ p ∧ Hid (Blk wr g1 3 (partsV n p p)) ∧ Hid (Blk wr g2 3 (partsV n p p)) ∧ Hid (Blk wr g3 3 cur) ∧ Hid (Kept z wr)) (fun _ v13 _ => p - (RowKit.intOf v13).toNat)
  case atStart => exact ⟨0, by simp [sumK], rfl, by omega, HB1, HB2, HB3, HKZ⟩
  case round =>
    obtain ⟨k, rfl, rfl, hk, b1, b2, b3, kz⟩ := hrel
    obtain ⟨s, hs⟩ : ∃ s : Int, s = (sumK n p k : Nat) := ⟨_, rfl⟩
    rw [← hs]
    have mx := mixed
    by_cases hlt : k < p
    · have hsn := sum_next n p k
      have hsl := sum_le n p (k + 1) HP.out hlt
      obtain ⟨s', hs'⟩ : ∃ s' : Int, s' = (sumK n p (k + 1) : Nat) := ⟨_, rfl⟩
      have pb := part_bound n p k HN.out
      have x0 : wr.cell? ⟨g1, k, none⟩ = some (.int .i64 (partN n p k)) := (b1.out.cell k).trans (by rw [parts_at n p p k hlt, if_pos hlt])
      have x1 : wr.cell? ⟨g3, k, none⟩ = some (.int .i64 (partN n p k)) := (b3.out.cell k).trans (HC.out k hlt)
      have x3 : wr.cell? ⟨g1, 0, none⟩ = some (.int .i64 (partN n p 0)) := (b1.out.cell 0).trans (by rw [parts_at n p p 0 (by omega), if_pos (by omega)])
      have pb0 := part_bound n p 0 HN.out
      have bk : 0 ≤ (k : Int) ∧ (k : Int) < (p : Int) := by omega
      have bp : 0 < (p : Int) := by omega
      have hw1 : IntKind.i64.wrap ((k : Int) + 1) = (k : Int) + 1 := by have := HP2.out; rw [IntKind.wrap_i64]; omega
      have q1 : IntKind.i64.wrap (s + partN n p k) = s' := by rw [hs', hsn, hs, ← hsn, IntKind.wrap_i64]; have := HN.out; omega
      obtain ⟨pm, hpm⟩ : ∃ pm : Int, pm = partN n p 0 - 1 := ⟨_, rfl⟩
      have q2 : IntKind.i64.wrap (partN n p 0 - 1) = pm := by rw [IntKind.wrap_i64]; omega
      have HS' := Lib.hid hs'
      by_cases hk0 : k = 0
      · subst hk0
        generalize partN n p 0 = pk at x0 x1 q1
        clear hsn hsl pb pb0 hs hs' hpm x3 q2
        go_wp2_with fail
        go_quiet (fail)
        have nb1 := Lib.hid (b1.out.drewN nq)
        have nb2 := Lib.hid (b2.out.drewN nq)
        have nb3 := Lib.hid (b3.out.drewN nq)
        have nkz := Lib.hid (kz.out.drewN nq)
        have y0 : (wr.drewN nq).cell? ⟨g1, 0, none⟩ = some (.int .i64 pk) := x0
        generalize wr.drewN nq = wq at nb1 nb2 nb3 nkz y0 ⊢
        go_wp2_with fail
        refine ⟨⟨1, by rw [HS'.out], rfl, by omega, nb1, nb2, nb3, nkz⟩, by simp [RowKit.intOf]; omega⟩
      · obtain ⟨km, rfl⟩ : ∃ km, k = km + 1 := ⟨k - 1, by omega⟩
        have pf := part_fall n p km
        have pf2 : partN n p 0 - 1 ≤ partN n p (km + 1) := (part_fall n p (km + 1)).2
        have x2 : wr.cell? ⟨g1, km, none⟩ = some (.int .i64 (partN n p km)) := (b1.out.cell km).trans (by rw [parts_at n p p km (by omega), if_pos (by omega)])
        have q3 : IntKind.i64.wrap ((km : Int) + 1 - 1) = (km : Int) := by have := HP2.out; rw [IntKind.wrap_i64]; omega
        have q4 : IntKind.i64.wrap (km : Int) = (km : Int) := by have := HP2.out; rw [IntKind.wrap_i64]; omega
        have hw2 : IntKind.i64.wrap ((km : Int) + 1 + 1) = (km : Int) + 1 + 1 := by have := HP2.out; rw [IntKind.wrap_i64]; omega
        have bkm : 0 ≤ (km : Int) ∧ (km : Int) < (p : Int) := by omega
        have bk2 : 0 ≤ (km : Int) + 1 ∧ (km : Int) + 1 < (p : Int) := by omega
        have dk0 : (0 : Int) < (km : Int) + 1 := by omega
        have c1 : ¬ partN n p km < partN n p (km + 1) := by omega
        have c2 : ¬ partN n p (km + 1) < pm := by omega
        rw [show ((km + 1 : Nat) : Int) = (km : Int) + 1 from rfl]
        generalize partN n p 0 = p0 at x3 q2
        generalize partN n p (km + 1) = pk at x0 x1 q1 c1 c2
        generalize partN n p km = pkm at x2 c1
        have dc1 : decide (pkm < pk) = false := decide_eq_false c1
        have dc2 : decide (pk < pm) = false := decide_eq_false c2
        clear hsn hsl pb pb0 hs hs' hpm pf pf2 hw1 bk hk0
        go_wp2_with fail
        go_quiet (fail)
        have nb1 := Lib.hid (b1.out.drewN nq)
        have nb2 := Lib.hid (b2.out.drewN nq)
        have nb3 := Lib.hid (b3.out.drewN nq)
        have nkz := Lib.hid (kz.out.drewN nq)
        have y0 : (wr.drewN nq).cell? ⟨g1, km + 1, none⟩ = some (.int .i64 pk) := x0
        generalize wr.drewN nq = wq at nb1 nb2 nb3 nkz y0 ⊢
        clear x0 x1 x2 x3
        go_wp2_with fail
        refine ⟨⟨km + 1 + 1, by rw [HS'.out], by congr 1, by omega, nb1, nb2, nb3, nkz⟩, by simp [RowKit.intOf]; omega⟩
    · have hkk : k = p := by omega
      have hsN : s = (n : Int) := by rw [hs, hkk, HS.out]
      clear hs hk hlt
      have HSN := Lib.hid hsN
      clear hsN
      go_wp2_with fail
      have NB1 := Lib.hid (show ∃ arr : Array Value, Blk wr g1 3 arr ∧ arr.size = p from ⟨_, b1.out, parts_size n p p⟩)
      clear b1
      go_loopw [14] (fun v14 wq => ∃ k : Nat, v14 = .int .i64 k ∧ k ≤ p ∧ Hid (∃ arr : Array Value, Blk wq g1 3 arr ∧ arr.size = p) ∧ Hid (Blk wq g2 3 (partsV n p p)) ∧ Hid (Blk wq g3 3 cur) ∧ Hid (Kept z wq)) (fun v14 _ => p - (RowKit.intOf v14).toNat)
      case atStart => exact ⟨0, rfl, by omega, NB1, b2, b3, kz⟩
      case round =>
        obtain ⟨k, rfl, hk, c1, c2, c3, ckz⟩ := hrel
        obtain ⟨arr, ca, hsz⟩ := c1.out
        have hw1 : IntKind.i64.wrap ((k : Int) + 1) = (k : Int) + 1 := by have := HP2.out; rw [IntKind.wrap_i64]; omega
        by_cases hlt : k < p
        · have bk : 0 ≤ (k : Int) ∧ (k : Int) < (p : Int) := by omega
          have x0 : wr.cell? ⟨g1, k, none⟩ = some (arr[k]'(by omega)) := (ca.cell k).trans (Array.getElem?_eq_getElem (by omega))
          generalize arr[k]'(by omega) = av at x0
          have xf := ca.frozen k
          have d1 := Lib.hid (show ∃ arr : Array Value, Blk (wr.setCell ⟨g1, k, none⟩ (.int .i64 (-7))) g1 3 arr ∧ arr.size = p from ⟨_, ca.set k _, by simpa using hsz⟩)
          have d2 := Lib.hid (c2.out.far (p := ⟨g1, k, none⟩) (show g2 ≠ g1 by have := HL1.out; omega) (.int .i64 (-7)))
          have d3 := Lib.hid (c3.out.far (p := ⟨g1, k, none⟩) (show g3 ≠ g1 by have := HL1.out; have := HL2.out; omega) (.int .i64 (-7)))
          have dk := Lib.hid (show Kept z (wr.setCell ⟨g1, k, none⟩ (.int .i64 (-7))) from Below.setCell ckz.out (p := ⟨g1, k, none⟩) HGZ.out _)
          clear ca hsz
          go_wp2_with fail
          refine ⟨⟨k + 1, by congr 1, by omega, d1, d2, d3, dk⟩, by simp [RowKit.intOf]; omega⟩
        · have hown : ∀ o, (wr.alloc o).ownsRow g1 3 1 (.slice (some ⟨g1, 0, none⟩) p p) p arr.toList := fun o => ⟨by simp [hsz], Or.inr ⟨g1, p, arr, rfl, Nat.le_refl _, (Below.heap_alloc wr o g1 ca.lt).trans ca, Nat.le_refl _, Nat.le_trans HP2.out (by decide), by simp [hsz], List.take_of_length_le (by simp [hsz])⟩⟩
          have glt : ∀ o, g1 ≤ (wr.alloc o).heap.size := fun o => by have := ca.lt; simp; omega
          have e2 : ∀ o, Blk (wr.alloc o) g2 3 (partsV n p p) := fun o => (Below.heap_alloc wr o g2 c2.out.lt).trans c2.out
          have e3 : ∀ o, Blk (wr.alloc o) g3 3 cur := fun o => (Below.heap_alloc wr o g3 c3.out.lt).trans c3.out
          have ekz : ∀ o, Kept z (wr.alloc o) := fun o => ckz.out.then ((Below.refl _ _).alloc (Nat.le_refl _) _)
          have hnew : ∀ j u, ([Value.int .i64 (-8)] : List Value)[j]? = some u → (wr.alloc (.cells #[.int .i64 (-8)] 3)).cell? ((⟨wr.heap.size, 0, none⟩ : Addr).add j) = some u := by
            intro j u hu
            match j, hu with
            | 0, hu =>
              have e : ((⟨wr.heap.size, 0, none⟩ : Addr).add 0) = ⟨wr.heap.size, 0, none⟩ := rfl
              rw [e, World.cell?_alloc_at _ _ _ _ rfl]
              simpa using hu
          have hp63 : p + 1 ≤ maxLen := Nat.le_trans (by have := HP2.out; omega : p + 1 ≤ 2000) (by decide)
          have hby : (p + 1) * 8 ≤ 140737488355328 := by have := HP2.out; omega
          have E2 := Lib.hid e2
          have E3 := Lib.hid e3
          have EKZ := Lib.hid ekz
          clear e2 e3 ekz ca hsz hw1 c1
          go_wp2_with (at_builtin; refine wpList_append_own _ rfl (.tmp 118) (.tmp 119) 30 rfl g1 3 i0 (.int .i64 0) 1 8 Tryd.underlying30 hi hz0 hz1 hz2 rfl (by decide) _ p arr.toList rfl (hown _) ⟨wr.heap.size, 0, none⟩ 1 1 [.int .i64 (-8)] rfl rfl hnew (by intro u hu; simp at hu; subst hu; rfl) hp63 hby (glt _) ?_; intro v' w5 hown' hgr _)
          have F2 := Lib.hid ((E2.out _).grown hgr (by intro h; have h2 : g2 = g1 := Option.some.inj h; have := HL1.out; omega))
          have F3 := Lib.hid ((E3.out _).grown hgr (by intro h; have h2 : g3 = g1 := Option.some.inj h; have := HL1.out; have := HL2.out; omega))
          have FKZ := Lib.hid (show Kept z w5 from Below.grown (EKZ.out _) hgr (EKZ.out _).size (fun k hk => by cases hk; exact HGZ.out))
          clear hown hnew hgr glt
          rcases hown'.2 with ⟨_, h0⟩ | ⟨g5, cap5, cur5, rfl, _⟩
          · omega
          clear hown'
          have pw : IntKind.i64.wrap ((p : Int) + 1) = (p : Int) + 1 := by have := HP2.out; rw [IntKind.wrap_i64]; omega
          go_loopw [15] (fun v15 wq => ∃ k : Nat, v15 = .int .i64 k ∧ k ≤ p ∧ Hid (Blk wq g2 3 (partsV n p p)) ∧ Hid (Blk wq g3 3 cur) ∧ Hid (Kept z wq)) (fun v15 _ => p - (RowKit.intOf v15).toNat)
          case atStart => exact ⟨0, rfl, by omega, F2, F3, FKZ⟩
          case round =>
            obtain ⟨k, rfl, hk, c2, c3, ckz⟩ := hrel
            have hw1 : IntKind.i64.wrap ((k : Int) + 1) = (k : Int) + 1 := by have := HP2.out; rw [IntKind.wrap_i64]; omega
            by_cases hlt : k < p
            · have bk : 0 ≤ (k : Int) ∧ (k : Int) < (p : Int) := by omega
              have x0 : wr.cell? ⟨g2, k, none⟩ = some (.int .i64 (partN n p k)) := (c2.out.cell k).trans (by rw [parts_at n p p k hlt, if_pos hlt])
              have x1 : wr.cell? ⟨g3, k, none⟩ = some (.int .i64 (partN n p k)) := (c3.out.cell k).trans (HC.out k hlt)
              generalize partN n p k = pk at x0 x1
              have mx2 := mixed
              go_wp2_with fail
              go_quiet (fail)
              have n2 := Lib.hid (c2.out.drewN nq)
              have n3 := Lib.hid (c3.out.drewN nq)
              have nkz := Lib.hid (ckz.out.drewN nq)
              generalize wr.drewN nq = wq at n2 n3 nkz ⊢
              clear x0 x1
              go_wp2_with fail
              refine ⟨⟨k + 1, by congr 1, by omega, n2, n3, nkz⟩, by simp [RowKit.intOf]; omega⟩
            · have hlt2 : ¬ (k : Int) < (p : Int) := by omega
              have hsn := HSN.out
              clear hlt hk hw1
              subst hsn
              go_wp2_with fail
              go_ret
              exact ⟨by simp, ckz.out⟩

theorem parts_any (n : Int) (_hn : -9223372036854775808 ≤ n ∧ n ≤ 9223372036854775807) (p : Int) (_hp : -9223372036854775808 ≤ p ∧ p ≤ 9223372036854775807) (w : World) (L : Laid w) : Calls Tryd.prog 5 #[.int .i64 n, .int .i64 p] w fun e w' => e = .returned (.bool true) ∧ Kept w w' := by
  have bad : ∀ x : Int, ¬ x = 0 → (∀ w, Calls Tryd.prog 17 #[.int .i64 n, .int .i64 p] w fun e w' => e = .returned (.tuple #[.slice none 0 0, .int .i64 x]) ∧ Kept w w') → fareboxref05_Split.f 3 n p = some ([], x) → Calls Tryd.prog 5 #[.int .i64 n, .int .i64 p] w fun e w' => e = .returned (.bool true) ∧ Kept w w' := by
    intro x hx S hf
    refine parts_bad n p x hx w L w (Kept.refl w) (fun w1 h => (S w1).mono fun _ _ ⟨he, hk⟩ => ⟨he, h.then hk⟩) (fun w1 h => (fareboxref05_Split.calls 3 n p _ _ w1 hf).mono fun e w' ⟨v0, he, hR, hb⟩ => ?_)
    obtain ⟨A, c, hv, _, _⟩ := Kd.R_reads hR
    exact ⟨A, c, by rw [he, hv]; rfl, h.then hb⟩
  by_cases h0 : n < 0 ∨ 9007199254740992 < n
  · exact bad 50 (by decide) (fun w => split_no n p h0 w) (rsplit_no n p h0)
  · by_cases h1 : p < 1 ∨ 1000 < p
    · exact bad 1 (by decide) (fun w => split_arg n p (by omega) (by omega) h1 w) (rsplit_arg n p (by omega) (by omega) h1)
    · obtain ⟨N, rfl⟩ : ∃ N : Nat, n = N := ⟨n.toNat, by omega⟩
      obtain ⟨P, rfl⟩ : ∃ P : Nat, p = P := ⟨p.toNat, by omega⟩
      exact parts_good N P (by omega) (by omega) (by omega) w L w (Kept.refl w)
end Go.Proofs.YtdioaclegmalpaaDoor.Hand
