/- debt's Book by hand: Listed and Accounts: loops over the tokens. -/
import Derived.Test.YtbfpggghcdfghaaHandC
namespace Go.Proofs.Ytbfpggghcdfghaa.Hand
open Go.RowKit Go.Maps Go.Sort Go.Proofs.YtbfpggghcdfghaaW.PrintWords Go.Proofs.Ytbfpggghcdfghaa.PA

theorem cells_at {α : Type} (enc : α → List Value) (s : Nat) (hs : ∀ x, (enc x).length = s) : ∀ (l : List α) (j : Nat) (x : α), l[j]? = some x → ∀ i u, (enc x)[i]? = some u → (l.flatMap enc)[j * s + i]? = some u
  | [], j, x, h, _, _, _ => by simp at h
  | y :: r, 0, x, h, i, u, hu => by
    simp at h
    subst h
    have hi := (List.getElem?_eq_some_iff.1 hu).1
    rw [List.flatMap_cons, Nat.zero_mul, Nat.zero_add, List.getElem?_append_left hi]
    exact hu
  | y :: r, j + 1, x, h, i, u, hu => by
    rw [List.flatMap_cons, Nat.succ_mul, List.getElem?_append_right (by rw [hs]; omega), hs, show j * s + s + i - s = j * s + i by omega]
    exact cells_at enc s hs r j x (by simpa using h) i u hu
/-- A row of the call's own reads as a list. -/
theorem C_of_own {α : Type} {d : Kd α} (enc : α → List Value) (hK : ∀ w x, d.K w x (enc x)) {w : World} {base : Nat} {e : TypeId} {v : Value} {l : List α} (h : w.ownsRow base e d.sz v l.length (l.flatMap enc)) :
    ∃ A c, v = .slice A l.length c ∧ l.length ≤ c ∧ d.C w A l.length l := by
  obtain ⟨h1, h2⟩ := h
  rcases h2 with ⟨rfl, h0⟩ | ⟨g, cap, cur, rfl, hb, hh, hl, hm, hc, ht⟩
  · have : l = [] := List.eq_nil_of_length_eq_zero h0
    subst this
    exact ⟨none, 0, rfl, Nat.le_refl _, Kd.C_nil d w⟩
  · refine ⟨some ⟨g, 0, none⟩, cap, rfl, hl, rfl, Nat.le_trans hl hm, fun _ => ⟨_, rfl, fun j x hj => ⟨enc x, d.K_len (hK w x), hK w x, fun i u hu => ?_⟩⟩⟩
    have hlen : ∀ x, (enc x).length = d.sz := fun x => d.K_len (hK w x)
    have hcu := cells_at enc d.sz hlen l j x hj i u hu
    rw [← ht, List.getElem?_take] at hcu
    split at hcu
    · rw [add_plain]
      have := cell_of_row w g (j * d.sz + i) cur e (0, 0) hh
      rw [this]
      simpa using hcu
    · cases hcu
def encS (s : ByteArray) : List Value := [.string s]
theorem C_strings {w : World} {base : Nat} {v : Value} {l : List ByteArray} (h : w.ownsRow base 9 1 v l.length (l.map Value.string)) : ∃ A c, v = .slice A l.length c ∧ l.length ≤ c ∧ Kd.string.C w A l.length l := by
  have e : l.map Value.string = l.flatMap encS := by
    induction l with
    | nil => rfl
    | cons x r ih =>
      have : ∀ r : List ByteArray, r.map Value.string = r.flatMap encS := fun r => by
        induction r with
        | nil => rfl
        | cons y s ih => rw [List.map_cons, List.flatMap_cons, ih]; rfl
      exact this _
  rw [e] at h
  exact C_of_own (d := Kd.string) encS (fun _ _ => rfl) h

/-! ### Listed -/
def owe (x : Acct) : Int := x.2.1 - x.2.2
def listS (m : List Acct) (th : Int) : List ByteArray := (m.filter (fun x => decide (th < owe x))).map (fun x => x.1)
theorem at_mem {m : List Acct} (h : Rise m) {x : Acct} (hx : x ∈ m) : getS m x.1 = some x.2 := (rise_get_mem h).2 hx
theorem owe_at {m : List Acct} (h : Rise m) {x : Acct} (hx : x ∈ m) : chS m x.1 - paS m x.1 = owe x := by
  unfold chS paS
  rw [at_mem h hx]
  rfl
theorem list_take (m : List Acct) (th : Int) (k : Nat) (hk : k < m.length) : listS (m.take (k + 1)) th = listS (m.take k) th ++ (if th < owe m[k] then [m[k].1] else []) := by
  unfold listS
  rw [List.take_succ_eq_append_getElem hk, List.filter_append, List.map_append]
  congr 1
  by_cases h : th < owe m[k] <;> simp [h]
theorem list_len (m : List Acct) (th : Int) : (listS m th).length ≤ m.length := by
  unfold listS
  rw [List.length_map]
  exact List.length_filter_le _ _
theorem info9s : (Try.prog.info? 9).map (fun i => (i.zero, i.size, i.bytes)) = some (some (.string ⟨#[]⟩), 1, 16) := by kernel_rfl
theorem own_step {w w' : World} {base : Nat} {e : TypeId} {size n : Nat} {v : Value} {xs : List Value} (h : w.ownsRow base e size v n xs) (hg : w.grownBy w' none) : w'.ownsRow base e size v n xs :=
  h.kept hg (by cases v.ownBlock <;> simp)
theorem one_str (s : ByteArray) : ∀ u ∈ [Value.string s], u.oneCell' = true := fun u hu => by
  rw [List.mem_singleton.1 hu]
  rfl
/-- What Listed leaves. -/
def ListPost (w : World) (l : List ByteArray) (e : Ending) (w' : World) : Prop :=
  ∃ v, e = .returned v ∧ w'.ownsRow w.heap.size 9 1 v l.length (l.map Value.string) ∧ w.grownBy w' none
structure LRel (w1 : World) (th : Int) (m : List Acct) (k : Nat) (v : Value) (wr : World) : Prop where
  own : wr.ownsRow w1.heap.size 9 1 v (listS (m.take k) th).length ((listS (m.take k) th).map Value.string)
  bel : Below w1.heap.size w1 wr
theorem LRel.start (w1 : World) (th : Int) (m : List Acct) : LRel w1 th m 0 (.slice none 0 0) w1 := ⟨World.ownsRow_nil _ _ _ _, Below.refl _ _⟩
theorem LRel.miss {w1 wr w2 : World} {th : Int} {m : List Acct} {k : Nat} {v : Value} (h : LRel w1 th m k v wr) (hk : k < m.length) (hno : ¬ th < owe m[k]) (hg : wr.grownBy w2 none) : LRel w1 th m (k + 1) v w2 := by
  rw [show LRel w1 th m (k + 1) v w2 ↔ LRel w1 th m k v w2 by
    constructor
    · rintro ⟨a, b⟩
      rw [list_take m th k hk, if_neg hno, List.append_nil] at a
      exact ⟨a, b⟩
    · rintro ⟨a, b⟩
      refine ⟨?_, b⟩
      rw [list_take m th k hk, if_neg hno, List.append_nil]
      exact a]
  exact ⟨h.own.kept hg (by cases v.ownBlock <;> simp), h.bel.grown hg h.bel.size (fun _ hk => by cases hk)⟩
theorem LRel.hit {w1 wr w2 w3 : World} {th : Int} {m : List Acct} {k : Nat} {v v' : Value} (h : LRel w1 th m k v wr) (hk : k < m.length) (hyes : th < owe m[k]) (hg : wr.grownBy w2 none) (hz : w1.heap.size ≤ w2.heap.size)
    (hown : w3.ownsRow w1.heap.size 9 1 v' ((listS (m.take k) th).length + 1) ((listS (m.take k) th).map Value.string ++ [.string m[k].1])) (hg3 : w2.grownBy w3 v.ownBlock) : LRel w1 th m (k + 1) v' w3 := by
  refine ⟨?_, (h.bel.grown hg h.bel.size (fun _ hk => by cases hk)).grown hg3 hz (fun j hj => own_base h.own j hj)⟩
  rw [list_take m th k hk, if_pos hyes, List.length_append, List.map_append]
  exact hown
set_option maxHeartbeats 2000000 in
set_option maxRecDepth 20000 in
theorem listed_any (p b : Nat) (m : List Acct) (th : Int) (w : World) (hB : Bk w p b m) (hG : Fine m) :
    Calls Try.prog 17 #[.pointer (some ⟨p, 0, none⟩), .int .i64 th] w (ListPost w (listS m th)) := by
  obtain ⟨i0, hi, hz0, hz1, hz2⟩ := info_parts info9s
  go_enter Try.func17, Try.ntmps17
  go_wp2_with fail
  refine (tokens_any p b m w hB hG).mono ?_
  rintro e w1 ⟨v, rfl, hrow, hnil, hg⟩
  have hB1 := hB.kept hg (by simp) (by simp)
  obtain ⟨A, c, rfl, hc, hC⟩ := C_strings (l := m.map (fun x => x.1)) (by rw [List.length_map, List.map_map]; exact hrow)
  rw [List.length_map] at hC hc
  clear hrow hnil hB
  rw [List.length_map]
  have hG' := Lib.hid hG
  have hB1' := Lib.hid hB1
  have hC' := Lib.hid hC
  clear hG hB1 hC
  have hml : m.length ≤ 1000 := hG'.out.few
  go_wp2
  go_loopw [5, 11] (fun o i wr => ∃ k : Nat, k ≤ m.length ∧ i = .int .i64 k ∧ LRel w1 th m k o wr) (fun _ i _ => m.length - (intOf i).toNat)
  case atStart => exact ⟨0, Nat.zero_le _, rfl, LRel.start _ _ _⟩
  case round =>
    obtain ⟨k, hk, rfl, hR⟩ := hrel
    have HR := Lib.hid hR
    clear hR
    by_cases hlt : k < m.length
    · obtain ⟨x, hxe⟩ : ∃ x, x = m[k] := ⟨_, rfl⟩
      have hxm : x ∈ m := by rw [hxe]; exact List.getElem_mem _
      have hsz : x.1.size ≤ maxLen := by have := (hG'.out.ok x hxm).1; unfold maxLen; omega
      obtain ⟨ad, e0, hx⟩ := Kd.at_string (Kd.C_below hC'.out HR.out.bel) (k : Int) (by omega) (by omega)
      subst e0
      have hrd : rdOf ByteArray.empty (m.map (fun x => x.1)) (k : Int) = x.1 := by rw [hxe]; simp [rdOf, hlt]
      rw [Int.toNat_natCast, hrd] at hx
      have hd := debt_any p b m x.1 wr (hB1'.out.below HR.out.bel hB1'.out.ltp hB1'.out.ltb) hG'.out hsz
      rw [owe_at hG'.out.rise hxm] at hd
      have HD := Lib.hid hd
      have HX := Lib.hid hxe
      have hll := list_len (m.take k) th
      rw [List.length_take] at hll
      have hws := HR.out.bel.size
      clear hd hrd hxm hsz hxe
      by_cases hth : th < owe x
      · go_wp2_with (first | (go_at_call 12; refine HD.out.mono ?_; rintro e w2 ⟨rfl, hg2⟩) | (at_builtin; refine wpList_append_own _ rfl _ _ 45 rfl w1.heap.size 9 i0 (.string ⟨#[]⟩) 1 16 Try.underlying45 hi hz0 hz1 hz2 rfl (by decide) _ _ _ rfl ((own_step HR.out.own hg2).alloc _) ⟨w2.heap.size, 0, none⟩ 1 1 [.string x.1] rfl rfl (cell_one_new _ _ _) (one_str _) (by unfold maxLen; omega) (by omega) (Nat.le_trans hws (Nat.le_trans hg2.size (by simp))) ?_; intro v' w3 hown' hgrow hnil'))
        refine ⟨⟨k + 1, by omega, by go_num, ?_⟩, by simp [intOf]; omega⟩
        have hxe := HX.out
        subst hxe
        exact HR.out.hit hlt hth (hg2.trans (World.grownBy_alloc _ _ _)) (Nat.le_trans hws (Nat.le_trans hg2.size (by simp))) hown' hgrow
      · go_wp2_with (first | (go_at_call 12; refine HD.out.mono ?_; rintro e w2 ⟨rfl, hg2⟩))
        refine ⟨⟨k + 1, by omega, by go_num, ?_⟩, by simp [intOf]; omega⟩
        have hxe := HX.out
        subst hxe
        exact HR.out.miss hlt (by omega) hg2
    · go_wp2
      go_ret
      have hkm : k = m.length := by omega
      subst hkm
      have hR := HR.out
      obtain ⟨h1, h2⟩ := hR
      rw [List.take_length] at h1
      refine ⟨_, rfl, own_weaken h1 hg.size, ?_⟩
      exact hg.trans ⟨h2.os, h2.tape, h2.output, h2.size, fun j hj _ => h2.block j hj⟩
end Go.Proofs.Ytbfpggghcdfghaa.Hand
