/- fareboxref22.Same at a list and itself; Accounts; fareboxlaw22.change. -/
import Derived.Test.YtbfpggghcdfghaaHandF
namespace Go.Proofs.Ytbfpggghcdfghaa.Hand
open Go.RowKit Go.Maps Go.Sort Go.Proofs.YtbfpggghcdfghaaW.PrintWords Go.Proofs.Ytbfpggghcdfghaa.PA Go.Proofs.Ytbfpggghcdfghaa.XA

/-! ### Same -/
def toS (x : Acct) : S33 := ⟨x.1, x.2.1, x.2.2⟩
theorem wrap_ok {i n : Int} (h0 : -1 ≤ i) (h : i ≤ n) (hn : n ≤ 9223372036854775807) : wrap64 i = i := by unfold wrap64; omega
theorem same_l0 (l : List S33) (hn : l.length ≤ 9223372036854775807) (d : Nat) : ∀ (K i : Nat), i + d = l.length → d < K → fareboxref22_Same.l0 K l l (i : Int) = some true := by
  induction d with
  | zero =>
    intro K i hi hK
    obtain ⟨K, rfl⟩ : ∃ m, K = m + 1 := ⟨K - 1, by omega⟩
    simp only [fareboxref22_Same.l0]
    rw [if_neg (by omega)]
  | succ d ih =>
    intro K i hi hK
    obtain ⟨K, rfl⟩ : ∃ m, K = m + 1 := ⟨K - 1, by omega⟩
    simp only [fareboxref22_Same.l0]
    rw [if_pos (by omega), if_pos (by omega), if_pos (by omega), if_neg (by simp), wrap_ok (n := l.length) (by omega) (by omega) (by omega)]
    exact ih K (i + 1) (by omega) (by omega)
theorem C_toS {w : World} {A : Option Addr} {l : List Acct} (h : kAc.C w A l.length l) : k33.C w A (l.map toS).length (l.map toS) := by
  obtain ⟨h1, h2, h3⟩ := h
  rw [List.length_map]
  refine ⟨by simp, h2, fun h0 => ?_⟩
  obtain ⟨ad, e, hc⟩ := h3 h0
  refine ⟨ad, e, fun j p hj => ?_⟩
  rw [List.getElem?_map] at hj
  cases hl : l[j]? with
  | none => rw [hl] at hj; cases hj
  | some x =>
    rw [hl] at hj
    simp at hj
    obtain ⟨c, hs, hK, hcell⟩ := hc j x hl
    subst hj
    exact ⟨c, hs, hK, hcell⟩
theorem same_any (A B : Option Addr) (c d : Nat) (l : List Acct) (w : World) (hl : kAc.C w A l.length l) (hc : l.length ≤ c) (hm : kAc.C w B l.length l) (hd : l.length ≤ d) :
    Calls Try.prog 14 #[.slice A l.length c, .slice B l.length d] w fun e w' => e = .returned (.bool true) ∧ w.grownBy w' none := by
  have h := fareboxref22_Same.calls (l.length + 1) A c (l.map toS) B d (l.map toS) true w (C_toS hl) (by simpa using hc) (C_toS hm) (by simpa using hd) (by
    unfold fareboxref22_Same.f
    rw [if_pos rfl]
    exact same_l0 (l.map toS) (by simpa using hl.2.1) l.length (l.length + 1) 0 (by simp) (by omega))
  rw [List.length_map] at h
  refine h.mono ?_
  rintro e w' ⟨he, ⟨n, rfl⟩⟩
  exact ⟨he, ⟨rfl, rfl, rfl, Nat.le_refl _, fun _ _ _ => rfl⟩⟩

/-! ### Accounts -/
theorem info33 : (Try.prog.info? 33).map (fun i => (i.zero, i.size, i.bytes)) = some (some (.agg #[.string ⟨#[]⟩, .int .i64 0, .int .i64 0]), 3, 32) := by kernel_rfl
theorem encA_len (x : Acct) : (encA x).length = 3 := rfl
theorem flat_len (l : List Acct) : (l.flatMap encA).length = l.length * 3 := by
  induction l with
  | nil => rfl
  | cons x r ih => rw [List.flatMap_cons, List.length_append, ih, encA_len, List.length_cons]; omega
theorem encA_one (x : Acct) : ∀ u ∈ encA x, u.oneCell' = true := fun u hu => by
  simp only [encA, List.mem_cons, List.not_mem_nil, or_false] at hu
  rcases hu with rfl | rfl | rfl <;> rfl
theorem cells_new (w : World) (t : TypeId) (x : Acct) : ∀ j u, (encA x)[j]? = some u → (w.alloc (.cells #[.string x.1, .int .i64 x.2.1, .int .i64 x.2.2] t)).cell? ((⟨w.heap.size, 0, none⟩ : Addr).add j) = some u := fun j u hu => by
  rw [add_plain, (Blk.new w t #[.string x.1, .int .i64 x.2.1, .int .i64 x.2.2]).cell]
  rw [← hu]
  simp [encA]
theorem cells_new2 (w : World) (t : TypeId) (x : Acct) (g : Nat) (hg : w.heap.size = g) : ∀ j u, (encA x)[j]? = some u → (w.alloc (.cells #[.string x.1, .int .i64 x.2.1, .int .i64 x.2.2] t)).cell? ((⟨g, 0, none⟩ : Addr).add j) = some u := by
  subst hg
  exact cells_new w t x
structure ARel (w1 : World) (m : List Acct) (k : Nat) (v : Value) (wr : World) : Prop where
  own : wr.ownsRow w1.heap.size 33 3 v k ((m.take k).flatMap encA)
  bel : Below w1.heap.size w1 wr
theorem take_flat (m : List Acct) (k : Nat) (hk : k < m.length) : (m.take (k + 1)).flatMap encA = (m.take k).flatMap encA ++ encA m[k] := by
  rw [List.take_succ_eq_append_getElem hk, List.flatMap_append]
  simp
def AcctsPost (w : World) (m : List Acct) (e : Ending) (w' : World) : Prop :=
  ∃ v, e = .returned v ∧ w'.ownsRow w.heap.size 33 3 v m.length (m.flatMap encA) ∧ w.grownBy w' none
theorem at_all {m : List Acct} (h : Rise m) {x : Acct} (hx : x ∈ m) : tokS m x.1 = x.1 ∧ chS m x.1 = x.2.1 ∧ paS m x.1 = x.2.2 ∧ isS m x.1 = true := by
  have hg := at_mem h hx
  unfold tokS chS paS isS
  rw [hg]
  simp
set_option maxHeartbeats 2000000 in
set_option maxRecDepth 20000 in
theorem accounts_any (p b : Nat) (m : List Acct) (w : World) (hB : Bk w p b m) (hG : Fine m) : Calls Try.prog 15 #[.pointer (some ⟨p, 0, none⟩)] w (AcctsPost w m) := by
  obtain ⟨i0, hi, hz0, hz1, hz2⟩ := info_parts info33
  go_enter Try.func15, Try.ntmps15
  go_wp2_with fail
  refine (tokens_any p b m w hB hG).mono ?_
  rintro e w1 ⟨v, rfl, hrow, hnil, hg⟩
  have hB1 := hB.kept hg (by simp) (by simp)
  obtain ⟨A, c, rfl, hc, hC⟩ := C_strings (l := m.map (fun x => x.1)) (by rw [List.length_map, List.map_map]; exact hrow)
  rw [List.length_map] at hC hc
  clear hrow hnil hB
  rw [List.length_map]
  have hG' := Lib.hid hG
  have hB1' := Lib.hid hB1
  have hC' := Lib.hid hC
  clear hG hB1 hC
  have hml : m.length ≤ 1000 := hG'.out.few
  go_wp2
  go_loopw [3, 11] (fun o i wr => ∃ k : Nat, k ≤ m.length ∧ i = .int .i64 k ∧ ARel w1 m k o wr) (fun _ i _ => m.length - (intOf i).toNat)
  case atStart => exact ⟨0, Nat.zero_le _, rfl, ⟨World.ownsRow_nil _ _ _ _, Below.refl _ _⟩⟩
  case round =>
    obtain ⟨k, hk, rfl, hR⟩ := hrel
    have HR := Lib.hid hR
    clear hR
    by_cases hlt : k < m.length
    · obtain ⟨x, hxe⟩ : ∃ x, x = m[k] := ⟨_, rfl⟩
      have hxm : x ∈ m := by rw [hxe]; exact List.getElem_mem _
      have hsz : x.1.size ≤ maxLen := by have := (hG'.out.ok x hxm).1; unfold maxLen; omega
      obtain ⟨ad, e0, hx⟩ := Kd.at_string (Kd.C_below hC'.out HR.out.bel) (k : Int) (by omega) (by omega)
      subst e0
      have hrd : rdOf ByteArray.empty (m.map (fun x => x.1)) (k : Int) = x.1 := by rw [hxe]; simp [rdOf, hlt]
      rw [Int.toNat_natCast, hrd] at hx
      have hd := account_any2 p b m x.1 wr (hB1'.out.below HR.out.bel hB1'.out.ltp hB1'.out.ltb) hsz
      obtain ⟨a1, a2, a3, a4⟩ := at_all hG'.out.rise hxm
      rw [a1, a2, a3, a4] at hd
      have HD := Lib.hid hd
      have HX := Lib.hid hxe
      clear hd hrd hxm hsz hxe a1 a2 a3 a4
      have hws := HR.out.bel.size
      have hbig : (k + 1) * 32 ≤ 140737488355328 := by omega
      go_wp2_with (first | (go_at_call 11; refine HD.out.mono ?_; rintro e w2 ⟨rfl, hg2⟩) | (at_builtin; refine wpList_append_own _ rfl _ _ 40 rfl w1.heap.size 33 i0 (.agg #[.string ⟨#[]⟩, .int .i64 0, .int .i64 0]) 3 32 Try.underlying40 hi hz0 hz1 hz2 rfl (by decide) _ _ _ rfl (((own_step HR.out.own hg2).alloc _).alloc _) ⟨w2.heap.size + 1, 0, none⟩ 1 1 (encA x) rfl rfl (cells_new2 _ _ _ _ (by simp)) (encA_one _) (by unfold maxLen; omega) hbig (Nat.le_trans hws (Nat.le_trans hg2.size (by simp; omega))) ?_; intro v' w3 hown' hgrow hnil'))
      refine ⟨⟨k + 1, by omega, by go_num, ?_, ?_⟩, by simp [intOf]; omega⟩
      · rw [take_flat m k hlt, ← HX.out]
        exact hown'
      · exact ((HR.out.bel.grown (hg2.trans ((World.grownBy_alloc _ _ _).trans (World.grownBy_alloc _ _ _))) hws (fun _ h => by cases h))).grown hgrow (Nat.le_trans hws (Nat.le_trans hg2.size (by simp; omega))) (fun j hj => own_base HR.out.own j hj)
    · go_wp2
      go_ret
      have hkm : k = m.length := by omega
      subst hkm
      obtain ⟨h1, h2⟩ := HR.out
      rw [List.take_length] at h1
      refine ⟨_, rfl, own_weaken h1 hg.size, ?_⟩
      exact hg.trans ⟨h2.os, h2.tape, h2.output, h2.size, fun j hj _ => h2.block j hj⟩

/-! ### change -/
def even (d : Int) : Bool := bits BinOp.and IntKind.i64 d 1 == 0
def chg (t : ByteArray) (m : List Acct) (o : OpT) : List Acct := if even o.1 = true then (setS m t o.2.1).2.2.2 else (payS m t o.2.1).2
theorem fine_chg {m : List Acct} (h : Fine m) (t : ByteArray) (o : OpT) : Fine (chg t m o) := by
  unfold chg
  split
  · exact fine_set h _ _
  · exact fine_pay h _ _
set_option maxRecDepth 20000 in
theorem change_any (p b : Nat) (m : List Acct) (t : ByteArray) (o : OpT) (w : World) (hB : Bk w p b m) (hG : Fine m) (hn : -9223372036854775808 ≤ o.2.1 ∧ o.2.1 ≤ 9223372036854775807) (ht : t.size ≤ maxLen) :
    Calls Try.prog 13 #[.pointer (some ⟨p, 0, none⟩), .string t, .agg #[.int .i64 o.1, .int .i64 o.2.1, .string o.2.2]] w fun e w' => ∃ v, e = .returned v ∧ Bk w' p b (chg t m o) ∧ w.grownBy w' (some b) := by
  obtain ⟨xd, xn, xs⟩ := o
  have HB := Lib.hid hB
  have HG := Lib.hid hG
  simp only at hn
  have HN := Lib.hid hn
  clear hB hG hn
  cases he : bits BinOp.and IntKind.i64 xd 1 == 0
  · have e : chg t m (xd, xn, xs) = (payS m t xn).2 := by unfold chg even; rw [if_neg (by simp only [he]; simp)]
    rw [e]
    clear e
    go_enter Try.func13, Try.ntmps13
    go_wp2_with (first | (go_at_call 10; refine (pay_any p b m t xn _ (HB.out.alloc _) HG.out HN.out ht).mono ?_; rintro e w' ⟨rfl, hB, hg⟩))
    go_ret
    exact ⟨_, rfl, hB, (World.grownBy_alloc _ _ _).trans hg⟩
  · have e : chg t m (xd, xn, xs) = (setS m t xn).2.2.2 := by unfold chg even; rw [if_pos he]
    rw [e]
    clear e
    go_enter Try.func13, Try.ntmps13
    go_wp2_with (first | (go_at_call 9; refine (set_any p b m t xn _ (HB.out.alloc _) HG.out ht).mono ?_; rintro e w' ⟨rfl, hB, hg⟩))
    go_ret
    exact ⟨_, rfl, hB, (World.grownBy_alloc _ _ _).trans hg⟩

/-! ### the plain law: tokens don't see each other -/
def stepO (o : OpT) (v : Option (Int × Int)) (t : ByteArray) : Option (Int × Int) :=
  if even o.1 = true then
    (if t.size ≠ 8 ∨ o.2.1 < 0 ∨ 9007199254740992 < o.2.1 then v else some (o.2.1, min (v.getD (0, 0)).2 o.2.1))
  else (if v.isSome = false ∨ o.2.1 < 1 ∨ (v.getD (0, 0)).1 - (v.getD (0, 0)).2 < o.2.1 then v else some ((v.getD (0, 0)).1, (v.getD (0, 0)).2 + o.2.1))
theorem get_chg {m : List Acct} (hl : m.length < 1000) (t : ByteArray) (o : OpT) : getS (chg t m o) t = stepO o (getS m t) t := by
  unfold chg stepO
  split
  · unfold setS
    split
    · rfl
    · rw [if_neg (by omega)]
      exact get_put_same _ _ _ _
  · unfold payS
    by_cases hc : isS m t = false ∨ o.2.1 < 1 ∨ chS m t - paS m t < o.2.1
    · rw [if_pos hc, if_pos (by exact hc)]
    · rw [if_neg hc, if_neg (by exact hc)]
      exact get_put_same _ _ _ _
theorem get_chg_other {m : List Acct} {t s : ByteArray} (h : t ≠ s) (o : OpT) : getS (chg t m o) s = getS m s := by
  unfold chg
  split
  · unfold setS
    split
    · rfl
    · split
      · rfl
      · exact get_put_other _ _ _ h
  · unfold payS
    split
    · rfl
    · exact get_put_other _ _ _ h
/-- Only these two tokens. -/
def Two (a b : ByteArray) (m : List Acct) : Prop := ∀ x ∈ m, x.1 = a ∨ x.1 = b
theorem two_len {a b : ByteArray} {m : List Acct} (h : Two a b m) (hr : Rise m) : m.length < 1000 := by
  rcases m with _ | ⟨x, _ | ⟨y, _ | ⟨z, r⟩⟩⟩
  · simp
  · simp
  · simp
  · obtain ⟨h1, h2⟩ := List.pairwise_cons.1 hr
    obtain ⟨h3, _⟩ := List.pairwise_cons.1 h2
    have xy := lt_ne (h1 y (by simp))
    have xz := lt_ne (h1 z (by simp))
    have yz := lt_ne (h3 z (by simp))
    exfalso
    rcases h x (by simp) with ex | ex <;> rcases h y (by simp) with ey | ey <;> rcases h z (by simp) with ez | ez <;> simp [ex, ey, ez] at xy xz yz
theorem two_chg {a b t : ByteArray} {m : List Acct} (h : Two a b m) (ht : t = a ∨ t = b) (o : OpT) : Two a b (chg t m o) := by
  have hp : ∀ c p, Two a b (putS m t c p) := fun c p x hx => by
    rcases mem_put hx with rfl | hx
    · exact ht
    · exact h x hx
  unfold chg
  split
  · unfold setS
    split
    · exact h
    · split
      · exact h
      · exact hp _ _
  · unfold payS
    split
    · exact h
    · exact hp _ _
def run (t : ByteArray) (m : List Acct) (l : List OpT) : List Acct := l.foldl (chg t) m
theorem run_fine (t : ByteArray) : ∀ (l : List OpT) {m : List Acct}, Fine m → Fine (run t m l)
  | [], _, h => h
  | o :: r, _, h => run_fine t r (fine_chg h t o)
theorem run_two {a b t : ByteArray} (ht : t = a ∨ t = b) : ∀ (l : List OpT) {m : List Acct}, Two a b m → Two a b (run t m l)
  | [], _, h => h
  | o :: r, _, h => run_two ht r (two_chg h ht o)
theorem run_other {t s : ByteArray} (h : t ≠ s) : ∀ (l : List OpT) (m : List Acct), getS (run t m l) s = getS m s
  | [], _ => rfl
  | o :: r, m => (run_other h r (chg t m o)).trans (get_chg_other h o)
theorem run_same {a b t : ByteArray} (ht : t = a ∨ t = b) : ∀ (l : List OpT) {m : List Acct}, Fine m → Two a b m → getS (run t m l) t = l.foldl (fun v o => stepO o v t) (getS m t)
  | [], _, _, _ => rfl
  | o :: r, m, hf, h2 => by
    show getS (run t (chg t m o) r) t = r.foldl _ (stepO o (getS m t) t)
    rw [run_same ht r (fine_chg hf t o) (two_chg h2 ht o), get_chg (two_len h2 hf.rise)]
theorem run_comm {a b : ByteArray} (h : a ≠ b) (l1 l2 : List OpT) : run b (run a [] l1) l2 = run a (run b [] l2) l1 := by
  have t0 : Two a b [] := fun x hx => by cases hx
  have f1 := run_fine a l1 fine_nil
  have f2 := run_fine b l2 fine_nil
  have g1 := run_two (a := a) (b := b) (.inl rfl) l1 t0
  have g2 := run_two (a := a) (b := b) (.inr rfl) l2 t0
  refine rise_ext (run_fine b l2 f1).rise (run_fine a l1 f2).rise fun s => ?_
  by_cases ha : a = s
  · subst ha
    rw [run_other h.symm, run_same (a := a) (b := b) (.inl rfl) l1 fine_nil t0, run_same (a := a) (b := b) (.inl rfl) l1 f2 g2, run_other h.symm]
  · by_cases hb : b = s
    · subst hb
      rw [run_same (a := a) (b := b) (.inr rfl) l2 f1 g1, run_other h, run_other h, run_same (a := a) (b := b) (.inr rfl) l2 fine_nil t0]
    · rw [run_other hb, run_other ha, run_other ha, run_other hb]
theorem run_snoc (t : ByteArray) (m : List Acct) (l : List OpT) (k : Nat) (hk : k < l.length) : run t m (l.take (k + 1)) = chg t (run t m (l.take k)) l[k] := by
  unfold run
  rw [List.take_succ_eq_append_getElem hk, List.foldl_append]
  rfl
end Go.Proofs.Ytbfpggghcdfghaa.Hand
