/- fareboxlaw13.spoil of a row of the call's own, with room or without. -/
import Derived.Test.YtodonkgheffibaaHand8
namespace Go.Proofs.Ytodonkgheffibaa.Hand
open Go.RowKit Go.Proofs.YtodonkgheffibaaW.PrintWords Go.Proofs.YtodonkgheffibaaW.PrintLast Go.Proofs.YtodonkgheffibaaW.PrintMore
open Go.Proofs.Ytodonkgheffibaa Go.Proofs.Ytodonkgheffibaa.PA Go.Proofs.Ytodonkgheffibaa.PB
theorem Blk.bar {w w' : World} {g k : Nat} {t : TypeId} {cs : Array Value} (h : Blk w k t cs) (hb : Bar g w w') (hne : k ≠ g) : Blk w' k t cs := (hb.block k h.lt hne).trans h
theorem Blk.set {w : World} {g : Nat} {t : TypeId} {cs : Array Value} (h : Blk w g t cs) (i : Nat) (u : Value) : Blk (w.setCell ⟨g, i, none⟩ u) g t (cs.setIfInBounds i u) := blk_set h i u
theorem Blk.far {w : World} {g k : Nat} {t : TypeId} {cs : Array Value} (h : Blk w k t cs) (i : Nat) (u : Value) (hne : k ≠ g) : Blk (w.setCell ⟨g, i, none⟩ u) k t cs := (Below.heap_setCell w ⟨g, i, none⟩ u k hne).trans h

theorem Cells.set' {w : World} {g : Nat} {vs : List Value} (h : Cells w ⟨g, 0, none⟩ vs) {k : Nat} (hk : k < vs.length) (v : Value) : Cells (w.setCell ⟨g, k, none⟩ v) ⟨g, 0, none⟩ (vs.set k v) := by
  have := h.set hk v
  rwa [add_plain] at this
set_option maxHeartbeats 2000000 in
theorem spoil_room (g n cap : Nat) (v0 : List Value) (w : World) (hc : Cells w ⟨g, 0, none⟩ v0) (hv : v0.length = cap) (hnc : n ≤ cap) (hn : (n + 1) * 16 ≤ 140737488355328) :
    Calls Try.prog 17 #[.slice (some ⟨g, 0, none⟩) n cap] w (SpoilPost g w) := by
  obtain ⟨i0, hi, hz0, hz1, hz2⟩ := info_parts info9s
  have hC := Lib.hid hc
  clear hc
  go_enter Try.func17, Try.ntmps17
  go_wp2
  go_loopw [2] (fun i wr => ∃ k : Nat, i = .int .i64 (k : Int) ∧ k ≤ n ∧ Bar g w wr ∧ ∃ vs : List Value, Cells wr ⟨g, 0, none⟩ vs ∧ vs.length = cap) (fun i _ => n - (intOf i).toNat)
  case atStart => exact ⟨0, rfl, by omega, Bar.refl _ _, _, hC.out, hv⟩
  case round =>
    obtain ⟨k, rfl, hk, hB, vs, hV, hs⟩ := hrel
    by_cases hlt : k < n
    · have x0 : wr.cell? ⟨g, k, none⟩ = some vs[k] := (congrArg wr.cell? (add_plain g k)).symm.trans (hV.there k _ (List.getElem?_eq_getElem (by omega)))
      have x1 : wr.frozen? ⟨g, k, none⟩ = false := (congrArg wr.frozen? (add_plain g k)).symm.trans (hV.free k (by omega))
      have b1 : decide ((k : Int) < (n : Int)) = true := by simp; omega
      go_wp2_with fail
      refine ⟨⟨k + 1, by simp, by omega, hB.trans (Bar.set_ _ _ _ rfl), _, Cells.set' hV (by omega) _, by simpa using hs⟩, by simp [intOf]; omega⟩
    · have b1 : decide ((k : Int) < (n : Int)) = false := by simp; omega
      have HB := Lib.hid hB
      have HV := Lib.hid hV
      clear hB hV
      have hB2 : ∀ o, Bar g w (wr.alloc o) := fun o => HB.out.trans (Bar.of_below ((Below.refl _ _).alloc (Nat.le_refl _) _))
      have hlt2 : 0 < cap → g < wr.heap.size := fun h0 => by
        have := World.block_lt_of_cell? wr _ (HV.out.there 0 _ (List.getElem?_eq_getElem (by omega)))
        rwa [add_block] at this
      have hV2 : ∀ o, ∀ j u, vs[j]? = some u → (wr.alloc o).cell? ⟨g, 0 + j, none⟩ = some u := fun o j u hj => by
        have hj2 : j < vs.length := (List.getElem?_eq_some_iff.1 hj).1
        rw [Nat.zero_add, ← add_plain]
        exact (World.cell?_of_block (Below.heap_alloc wr o _ (by rw [add_block]; exact hlt2 (by omega)))).trans (HV.out.there j u hj)
      have hF2 : ∀ o, ∀ j, j < cap → (wr.alloc o).frozen? ⟨g, j, none⟩ = false := fun o j hj => by
        rw [← add_plain]
        exact (World.frozen?_of_block (Below.heap_alloc wr o _ (by rw [add_block]; exact hlt2 (by omega)))).trans (HV.out.free j (by omega))
      have hnew : ∀ j u, [Value.string ⟨#[109, 111, 114, 101]⟩][j]? = some u → (wr.alloc (.cells #[.string ⟨#[109, 111, 114, 101]⟩] 9)).cell? ((⟨wr.heap.size, 0, none⟩ : Addr).add j) = some u := fun j u hj => by
        have hk2 : Blk (wr.alloc (.cells #[.string ⟨#[109, 111, 114, 101]⟩] 9)) wr.heap.size 9 #[.string ⟨#[109, 111, 114, 101]⟩] := Blk.new wr 9 _
        rw [add_plain, hk2.cell]
        simpa using hj
      have hone : ∀ u ∈ [Value.string ⟨#[109, 111, 114, 101]⟩], u.oneCell' = true := fun u hu => by
        rw [List.mem_singleton.1 hu]
        rfl
      have hold : ∀ o, ∀ j u, (vs.take n)[j]? = some u → (wr.alloc o).cell? ⟨g, 0 + j, none⟩ = some u := fun o j u hj => hV2 o j u (by
        rw [List.getElem?_take] at hj
        split at hj
        · exact hj
        · cases hj)
      have hspare : ∀ o, n + 1 ≤ cap → ∀ j, j < [Value.string ⟨#[109, 111, 114, 101]⟩].length → ((wr.alloc o).cell? ⟨g, 0 + n * 1 + j, none⟩).isSome = true ∧ (wr.alloc o).frozen? ⟨g, 0 + n * 1 + j, none⟩ = false := fun o h1 j hj => by
        have hj0 : j = 0 := by simpa using hj
        subst hj0
        have h2 := hV2 o n (vs[n]'(by omega)) (List.getElem?_eq_getElem (by omega))
        have h3 := hF2 o n (by omega)
        rw [Nat.zero_add] at h2
        rw [Nat.zero_add, Nat.mul_one, Nat.add_zero, h2, h3]
        exact ⟨rfl, rfl⟩
      have b3 : ((n : Int) + 1 == 0) = false := by simp; omega
      have hmax : n + 1 ≤ maxLen := by unfold maxLen; omega
      go_wp2_with (at_builtin; refine wpList_append_arg _ rfl (.tmp 12) (.tmp 13) 22 rfl 9 i0 (.string ⟨#[]⟩) 1 16 Try.underlying22 hi hz0 hz1 hz2 rfl (by decide) g 0 n cap (vs.take n) rfl (by simp; omega) (hold _) ⟨wr.heap.size, 0, none⟩ 1 1 [.string ⟨#[109, 111, 114, 101]⟩] rfl rfl hnew hone (hspare _) hmax hn ?room ?grow)
      case room =>
        intro hroom
        have hB3 := Lib.hid ((hB2 (.cells #[.string ⟨#[109, 111, 114, 101]⟩] 9)).trans (Bar.set _ g n (.string ⟨#[109, 111, 114, 101]⟩)))
        clear hnew hone hV2 hB2 hF2 hold hspare
        go_wp2
        go_end0
        exact ⟨rfl, hB3.out⟩
      case grow =>
        intro hgrow v' w' hown hg
        have hB3 := Lib.hid ((hB2 (.cells #[.string ⟨#[109, 111, 114, 101]⟩] 9)).trans (Bar.of_below ((Below.refl _ _).grown hg (Nat.le_refl _) (fun k hk => by cases hk))))
        obtain ⟨A', c', hv'⟩ := slice_of_own hown
        subst hv'
        clear hown hg hnew hone hV2 hB2 hF2 hold hspare
        go_wp2
        go_end0
        exact ⟨rfl, hB3.out⟩

theorem listed_ {α : Type} {Q : Nat → α → Prop} : ∀ {n : Nat}, (∀ i, i < n → ∃ y, Q i y) → ∃ l : List α, l.length = n ∧ ∀ i p, l[i]? = some p → Q i p
  | 0, _ => ⟨[], rfl, fun i p h => by simp at h⟩
  | n + 1, h => by
    obtain ⟨l, hl, hq⟩ := listed_ (n := n) (fun i hi => h i (by omega))
    obtain ⟨y, hy⟩ := h n (by omega)
    refine ⟨l ++ [y], by simp [hl], fun i p hp => ?_⟩
    by_cases hi : i < n
    · exact hq i p (by rwa [List.getElem?_append_left (by omega)] at hp)
    · rw [List.getElem?_append_right (by omega)] at hp
      have hi2 : i = n := by
        have := (List.getElem?_eq_some_iff.1 hp).1
        simp at this
        omega
      subst hi2
      rw [hl] at hp
      simp at hp
      exact hp ▸ hy
theorem Cells.bar {w w' : World} {ad : Addr} {vs : List Value} {k : Nat} (h : Cells w ad vs) (hb : Bar k w w') : ∃ vs', Cells w' ad vs' ∧ vs'.length = vs.length := by
  have hone : ∀ j, j < vs.length → ∃ u, w'.cell? (ad.add j) = some u ∧ w'.frozen? (ad.add j) = false := fun j hj => by
    have h1 := h.there j _ (List.getElem?_eq_getElem hj)
    have h2 := h.free j hj
    have hlt := World.block_lt_of_cell? w _ h1
    by_cases e : (ad.add j).block = k
    · unfold World.cell? at h1
      unfold World.frozen? at h2
      rw [e] at h1 h2
      split at h1
      · rename_i cs t fz hh
        obtain ⟨cs', h3, h4⟩ := hb.kept cs t fz hh
        rw [hh] at h2
        unfold World.cell? World.frozen?
        rw [e, h3]
        split at h1
        · cases h1
        · rename_i hs
          have hlt2 := (Array.getElem?_eq_some_iff.1 h1).1
          refine ⟨cs'[(ad.add j).off]'(by omega), ?_, h2⟩
          show (if (ad.add j).spot.isSome = true then none else cs'[(ad.add j).off]?) = _
          rw [if_neg hs]
          exact Array.getElem?_eq_getElem _
      · cases h1
    · have hbk := hb.block _ hlt e
      exact ⟨_, (World.cell?_of_block hbk).trans h1, (World.frozen?_of_block hbk).trans h2⟩
  obtain ⟨l, hl, hq⟩ := listed_ (n := vs.length) (Q := fun j u => w'.cell? (ad.add j) = some u ∧ w'.frozen? (ad.add j) = false) hone
  refine ⟨l, ⟨fun j u hj => (hq j u hj).1, fun j hj => (hq j _ (List.getElem?_eq_getElem hj)).2⟩, hl⟩

/-- A slice value whose cells may be written; its block lies between lo and hi. -/
def Room (w : World) (lo hi : Nat) (v : Value) (n : Nat) : Prop :=
  (v = .slice none 0 0 ∧ n = 0) ∨ (∃ ad vs, v = .slice (some ad) n n ∧ Cells w ad vs ∧ vs.length = n ∧ (0 < n → lo ≤ ad.block ∧ ad.block < hi)) ∨
  (∃ g cap vs, v = .slice (some ⟨g, 0, none⟩) n cap ∧ n ≤ cap ∧ Cells w ⟨g, 0, none⟩ vs ∧ vs.length = cap ∧ lo ≤ g ∧ g < hi)
theorem Room.bar {w w' : World} {lo hi n k : Nat} {v : Value} (h : Room w lo hi v n) (hb : Bar k w w') : Room w' lo hi v n := by
  rcases h with h | ⟨ad, vs, h1, h2, h3, h4⟩ | ⟨g, cap, vs, h1, h2, h3, h4, h5⟩
  · exact .inl h
  · obtain ⟨vs', k1, k2⟩ := h2.bar hb
    exact .inr (.inl ⟨ad, vs', h1, k1, k2.trans h3, h4⟩)
  · obtain ⟨vs', k1, k2⟩ := h3.bar hb
    exact .inr (.inr ⟨g, cap, vs', h1, h2, k1, k2.trans h4, h5⟩)
theorem Room.below {w w' : World} {lo hi n : Nat} {v : Value} (h : Room w lo hi v n) (hb : Below w.heap.size w w') : Room w' lo hi v n := h.bar (k := 0) (Bar.of_below hb)
theorem Room.alloc {w : World} {lo hi n : Nat} {v : Value} (h : Room w lo hi v n) (o : Obj) : Room (w.alloc o) lo hi v n := h.below (below_alloc (Below.refl _ _) o)
theorem Room.of_R {w : World} {base hi : Nat} {ok : Nat → Prop} {v : Value} {l : List ByteArray} (h : Kd.R Kd.string 9 w base ok v l) (hh : w.heap.size ≤ hi) : Room w base hi v l.length := by
  obtain ⟨hok, inner, ho, _⟩ := h
  rcases ho.2 with ⟨rfl, h1⟩ | ⟨g, cap, cur, rfl, hg, hc, hle, _, hs, _⟩
  · exact .inl ⟨rfl, h1⟩
  · have hk : Blk w g 9 cur := hc
    have hz : (Kd.string).sz = 1 := rfl
    refine .inr (.inr ⟨g, cap, cur.toList, rfl, hle, ⟨fun j u hj => ?_, fun j hj => ?_⟩, ?_, hg, Nat.lt_of_lt_of_le hk.lt hh⟩)
    · rw [add_plain, hk.cell]
      simpa using hj
    · rw [add_plain]
      exact hk.frozen j
    · rw [hz, Nat.mul_one] at hs
      simpa using hs
theorem Room.of_VW {w : World} {base b hi : Nat} {e : Nat} {v : Value} {l : List ByteArray} (h : VW Kd.string e w b (fun k => base ≤ k) v l) (hh : w.heap.size ≤ hi) : Room w base hi v l.length := by
  obtain ⟨A, rfl, hok, hf⟩ := VW_bound h
  obtain ⟨hC, hfr⟩ := hf.now
  cases A with
  | none =>
    have h0 : l = [] := by
      rcases Nat.eq_zero_or_pos l.length with h | h
      · exact List.eq_nil_of_length_eq_zero h
      · obtain ⟨ad, e0, _⟩ := hC.2.2 h
        cases e0
    subst h0
    exact .inl ⟨rfl, rfl⟩
  | some ad => exact .inr (.inl ⟨ad, strsV l, rfl, ⟨fun j u hj => C_cells hC rfl j u hj, fun j hj => hfr ad rfl j (by simpa [strsV_len] using hj)⟩, strsV_len l, fun h0 => ⟨(hok ad rfl h0).1, Nat.lt_of_lt_of_le (hok ad rfl h0).2 hh⟩⟩)
/-- A row that may be written, spoilt: a block between lo and hi has turned, or none (g0: any number). -/
theorem spoil_law {w : World} {lo hi n : Nat} {v : Value} (g0 : Nat) (h : Room w lo hi v n) (hn : (n + 1) * 16 ≤ 140737488355328) :
    Calls Try.prog 17 #[v] w fun e w' => e = .returned (.tuple #[]) ∧ (∃ k, (k = g0 ∨ (lo ≤ k ∧ k < hi)) ∧ Bar k w w') := by
  rcases h with ⟨rfl, _⟩ | ⟨ad, vs, rfl, h2, h3, h4⟩ | ⟨g, cap, vs, rfl, h2, h3, h4, h5⟩
  · exact (spoil_none g0 w).mono fun _ _ ⟨h1, h2⟩ => ⟨h1, g0, .inl rfl, h2⟩
  · have hl : (List.replicate n ByteArray.empty).length = n := by simp
    rcases Nat.eq_zero_or_pos n with h0 | h0
    · have := spoil_some g0 ad (List.replicate n ByteArray.empty) w vs h2 (by rw [hl, h3]) (fun h => absurd h (by rw [hl]; omega)) (by rw [hl]; exact hn)
      rw [hl] at this
      exact this.mono fun _ _ ⟨h1, h2⟩ => ⟨h1, g0, .inl rfl, h2⟩
    · have := spoil_some ad.block ad (List.replicate n ByteArray.empty) w vs h2 (by rw [hl, h3]) (fun _ => rfl) (by rw [hl]; exact hn)
      rw [hl] at this
      exact this.mono fun _ _ ⟨h1, h2⟩ => ⟨h1, ad.block, .inr (h4 h0), h2⟩
  · exact (spoil_room g n cap vs w h3 h4 h2 hn).mono fun _ _ ⟨h1, h2⟩ => ⟨h1, g, .inr h5, h2⟩
end Go.Proofs.Ytodonkgheffibaa.Hand
