/- fareboxlaw13.spoil by hand: a list's owner writes over it, and over nothing else. -/
import Derived.Test.YtodonkgheffibaaHand7
import Derived.ArgAppend
namespace Go.Proofs.Ytodonkgheffibaa.Hand
open Go.RowKit Go.Proofs.YtodonkgheffibaaW.PrintWords Go.Proofs.YtodonkgheffibaaW.PrintLast Go.Proofs.YtodonkgheffibaaW.PrintMore
open Go.Proofs.Ytodonkgheffibaa Go.Proofs.Ytodonkgheffibaa.PA Go.Proofs.Ytodonkgheffibaa.PB

theorem add_inj {ad : Addr} {j k : Nat} (h : ad.add j = ad.add k) : j = k := by
  unfold Addr.add at h
  by_cases hj : j = 0 <;> by_cases hk : k = 0
  · omega
  · simp [hj, hk] at h
    have := congrArg Addr.off h
    simp at this
    omega
  · simp [hj, hk] at h
    have := congrArg Addr.off h
    simp at this
    omega
  · simp [hj, hk] at h
    exact h
theorem add_block (ad : Addr) (j : Nat) : (ad.add j).block = ad.block := by
  unfold Addr.add
  split <;> rfl
/-- The cells of a row that may be written. -/
structure Cells (w : World) (ad : Addr) (vs : List Value) : Prop where
  there : ∀ j u, vs[j]? = some u → w.cell? (ad.add j) = some u
  free : ∀ j, j < vs.length → w.frozen? (ad.add j) = false
theorem Cells.set {w : World} {ad : Addr} {vs : List Value} (h : Cells w ad vs) {k : Nat} (hk : k < vs.length) (v : Value) : Cells (w.setCell (ad.add k) v) ad (vs.set k v) := by
  constructor
  · intro j u hj
    by_cases e : j = k
    · subst e
      rw [List.getElem?_set_self hk] at hj
      injection hj with hj
      subst hj
      exact World.cell?_setCell_same _ _ _ (h.there j _ (List.getElem?_eq_getElem hk))
    · rw [List.getElem?_set_ne (Ne.symm e)] at hj
      rw [World.cell?_setCell_other _ _ _ _ (fun h2 => e (add_inj h2).symm)]
      exact h.there j u hj
  · intro j hj
    rw [World.frozen?_setCell]
    exact h.free j (by simpa using hj)

theorem slice_of_own {w : World} {base n : Nat} {v : Value} {xs : List Value} (h : w.ownsRow base 9 1 v n xs) : ∃ A c, v = .slice A n c := by
  rcases h.2 with ⟨h1, h2⟩ | ⟨g, cap, _, h1, _⟩
  · exact ⟨none, 0, by rw [h1, h2]⟩
  · exact ⟨_, _, h1⟩
def SpoilPost (g : Nat) (w : World) (e : Ending) (w' : World) : Prop := e = .returned (.tuple #[]) ∧ Bar g w w'

set_option maxHeartbeats 2000000 in
theorem spoil_some (g : Nat) (ad : Addr) (l : List ByteArray) (w : World) (v0 : List Value) (hc : Cells w ad v0) (hv : v0.length = l.length) (hgb : 0 < l.length → ad.block = g) (hn : (l.length + 1) * 16 ≤ 140737488355328) :
    Calls Try.prog 17 #[.slice (some ad) l.length l.length] w (SpoilPost g w) := by
  obtain ⟨i0, hi, hz0, hz1, hz2⟩ := info_parts info9s
  have hC := Lib.hid hc
  clear hc
  go_enter Try.func17, Try.ntmps17
  go_wp2
  go_loopw [2] (fun i wr => ∃ k : Nat, i = .int .i64 (k : Int) ∧ k ≤ l.length ∧ Bar g w wr ∧ ∃ vs : List Value, Cells wr ad vs ∧ vs.length = l.length) (fun i _ => l.length - (intOf i).toNat)
  case atStart => exact ⟨0, rfl, by omega, Bar.refl _ _, _, hC.out, hv⟩
  case round =>
    obtain ⟨k, rfl, hk, hB, vs, hV, hs⟩ := hrel
    by_cases hlt : k < l.length
    · have x0 : wr.cell? (ad.add k) = some vs[k] := hV.there k _ (List.getElem?_eq_getElem (by omega))
      have x1 := hV.free k (by omega)
      have b1 : decide ((k : Int) < (l.length : Int)) = true := by simp; omega
      go_wp2_with fail
      refine ⟨⟨k + 1, by simp, by omega, hB.trans (Bar.set_ _ _ _ ((add_block ad k).trans (hgb (by omega)))), _, hV.set (by omega) _, by simpa using hs⟩, by simp [intOf]; omega⟩
    · have b1 : decide ((k : Int) < (l.length : Int)) = false := by simp; omega
      have HB := Lib.hid hB
      have HV := Lib.hid hV
      clear hB hV
      have hB2 : ∀ o, Bar g w (wr.alloc o) := fun o => HB.out.trans (Bar.of_below ((Below.refl _ _).alloc (Nat.le_refl _) _))
      have hlt2 : 0 < l.length → ad.block < wr.heap.size := fun h0 => by
        have := World.block_lt_of_cell? wr _ (HV.out.there 0 _ (List.getElem?_eq_getElem (by omega)))
        rwa [add_block] at this
      have hV2 : ∀ o, ∀ b, some ad = some b → ∀ j u, vs[j]? = some u → (wr.alloc o).cell? (b.add j) = some u := fun o b hb j u hj => by
        injection hb with hb
        subst hb
        have hj2 : j < vs.length := (List.getElem?_eq_some_iff.1 hj).1
        exact (World.cell?_of_block (Below.heap_alloc wr o _ (by rw [add_block]; exact hlt2 (by omega)))).trans (HV.out.there j u hj)
      have hnew : ∀ j u, [Value.string ⟨#[109, 111, 114, 101]⟩][j]? = some u → (wr.alloc (.cells #[.string ⟨#[109, 111, 114, 101]⟩] 9)).cell? ((⟨wr.heap.size, 0, none⟩ : Addr).add j) = some u := fun j u hj => by
        have hk2 : Blk (wr.alloc (.cells #[.string ⟨#[109, 111, 114, 101]⟩] 9)) wr.heap.size 9 #[.string ⟨#[109, 111, 114, 101]⟩] := Blk.new wr 9 _
        rw [add_plain, hk2.cell]
        simpa using hj
      have hone : ∀ u ∈ [Value.string ⟨#[109, 111, 114, 101]⟩], u.oneCell' = true := fun u hu => by
        rw [List.mem_singleton.1 hu]
        rfl
      go_wp2_with (at_builtin; refine wpList_append_grows _ rfl (.tmp 12) (.tmp 13) 22 rfl 9 i0 (.string ⟨#[]⟩) 1 16 Try.underlying22 hi hz0 hz1 hz2 rfl (by decide) (some ad) l.length l.length vs rfl (fun h => by cases h) (by omega) (hV2 _) ⟨wr.heap.size, 0, none⟩ 1 1 [.string ⟨#[109, 111, 114, 101]⟩] rfl rfl hnew hone (by omega) (by unfold maxLen; omega) hn ?_; intro v' w' hown hg; have hB3 := Lib.hid ((hB2 _).trans (Bar.of_below ((Below.refl _ _).grown hg (Nat.le_refl _) (fun k hk => by cases hk)))); obtain ⟨A', c', hv'⟩ := slice_of_own hown; subst hv'; clear hown hg hnew hone hV2 hB2; have b3 : ((l.length : Int) + 1 == 0) = false := (by simp; omega))
      go_end0
      exact ⟨rfl, hB3.out⟩

set_option maxHeartbeats 2000000 in
theorem spoil_none (g : Nat) (w : World) : Calls Try.prog 17 #[.slice none 0 0] w (SpoilPost g w) := by
  obtain ⟨i0, hi, hz0, hz1, hz2⟩ := info_parts info9s
  go_enter Try.func17, Try.ntmps17
  go_wp2
  go_loopw [2] (fun i wr => i = .int .i64 0 ∧ wr = w) (fun i _ => (intOf i).toNat)
  case atStart => exact ⟨rfl, rfl⟩
  case round =>
    obtain ⟨rfl, rfl⟩ := hrel
    have hnew : ∀ j u, [Value.string ⟨#[109, 111, 114, 101]⟩][j]? = some u → (wr.alloc (.cells #[.string ⟨#[109, 111, 114, 101]⟩] 9)).cell? ((⟨wr.heap.size, 0, none⟩ : Addr).add j) = some u := fun j u hj => by
      have hk2 : Blk (wr.alloc (.cells #[.string ⟨#[109, 111, 114, 101]⟩] 9)) wr.heap.size 9 #[.string ⟨#[109, 111, 114, 101]⟩] := Blk.new wr 9 _
      rw [add_plain, hk2.cell]
      simpa using hj
    have hone : ∀ u ∈ [Value.string ⟨#[109, 111, 114, 101]⟩], u.oneCell' = true := fun u hu => by
      rw [List.mem_singleton.1 hu]
      rfl
    have hB2 : ∀ o, Bar g wr (wr.alloc o) := fun o => Bar.of_below ((Below.refl _ _).alloc (Nat.le_refl _) _)
    go_wp2_with (at_builtin; refine wpList_append_grows _ rfl (.tmp 12) (.tmp 13) 22 rfl 9 i0 (.string ⟨#[]⟩) 1 16 Try.underlying22 hi hz0 hz1 hz2 rfl (by decide) none 0 0 [] rfl (fun _ => ⟨rfl, rfl⟩) rfl (fun b hb => by cases hb) ⟨wr.heap.size, 0, none⟩ 1 1 [.string ⟨#[109, 111, 114, 101]⟩] rfl rfl hnew hone (by omega) (by unfold maxLen; omega) (by omega) ?_; intro v' w' hown hg; have hB3 := Lib.hid ((hB2 _).trans (Bar.of_below ((Below.refl _ _).grown hg (Nat.le_refl _) (fun k hk => by cases hk)))); obtain ⟨A', c', hv'⟩ := slice_of_own hown; subst hv'; clear hown hg hnew hone hB2)
    go_end0
    exact ⟨rfl, hB3.out⟩

/-- A row that may be written, spoilt. -/
theorem spoil_any {base : Nat} {e : Nat} {ok : Nat → Prop} {v : Value} {l : List ByteArray} {w : World} (g : Nat) (h : VW Kd.string e w base ok v l) (hn : (l.length + 1) * 16 ≤ 140737488355328) :
    Calls Try.prog 17 #[v] w fun e w' => e = .returned (.tuple #[]) ∧ (∃ k, (k = g ∨ ok k) ∧ Bar k w w') := by
  obtain ⟨A, rfl, hok, hf⟩ := h
  obtain ⟨hC, hfr⟩ := hf.now
  cases A with
  | none =>
    have h0 : l = [] := by
      rcases Nat.eq_zero_or_pos l.length with h | h
      · exact List.eq_nil_of_length_eq_zero h
      · obtain ⟨ad, e0, _⟩ := hC.2.2 h
        cases e0
    subst h0
    exact (spoil_none g w).mono fun _ _ ⟨h1, h2⟩ => ⟨h1, g, .inl rfl, h2⟩
  | some ad =>
    rcases Nat.eq_zero_or_pos l.length with h | h
    · obtain rfl := List.eq_nil_of_length_eq_zero h
      exact (spoil_some g ad [] w [] ⟨fun j u hj => by simp at hj, fun j hj => by simp at hj⟩ rfl (fun h => absurd h (by decide)) (by decide)).mono fun _ _ ⟨h1, h2⟩ => ⟨h1, g, .inl rfl, h2⟩
    · exact (spoil_some ad.block ad l w (strsV l) ⟨fun j u hj => C_cells hC rfl j u hj, fun j hj => hfr ad rfl j (by simpa [strsV_len] using hj)⟩ (strsV_len l) (fun _ => rfl) hn).mono fun _ _ ⟨h1, h2⟩ => ⟨h1, ad.block, .inr (hok ad rfl h), h2⟩
end Go.Proofs.Ytodonkgheffibaa.Hand
