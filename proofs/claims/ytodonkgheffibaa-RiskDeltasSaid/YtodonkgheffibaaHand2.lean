/- slices.Grow of nothing and slices.Concat of two lists of texts, by hand. -/
import Derived.Test.YtodonkgheffibaaXAx0
import Derived.WalkLawsBesides
import Derived.Lib.Hide
import Derived.Lib.AppendZeros
namespace Go.Proofs.Ytodonkgheffibaa.Hand
open Go.RowKit Go.Proofs.YtodonkgheffibaaW.PrintWords Go.Proofs.YtodonkgheffibaaW.PrintLast Go.Proofs.YtodonkgheffibaaW.PrintMore

theorem info9s : (Try.prog.info? 9).map (fun i => (i.zero, i.size, i.bytes)) = some (some (.string ⟨#[]⟩), 1, 16) := by kernel_rfl

/-- What Grow leaves: nil of nothing, else an empty row of its own with room for n. -/
def GrowPost (n : Nat) (w : World) (e : Ending) (w' : World) : Prop :=
  (n = 0 ∧ e = .returned (.slice none 0 0) ∧ w = w') ∨
  (∃ cap, 0 < n ∧ n ≤ cap ∧ e = .returned (.slice (some ⟨w.heap.size, 0, none⟩) 0 cap) ∧ w'.ownsRow w.heap.size 9 1 (.slice (some ⟨w.heap.size, 0, none⟩) 0 cap) 0 [] ∧ Below w.heap.size w w')

theorem grow_zero (w : World) : Calls Try.prog 50 #[.slice none 0 0, .int .i64 0] w (GrowPost 0 w) := by
  go_enter Try.func50, Try.ntmps50
  go_wp2
  go_ret
  exact .inl ⟨rfl, rfl, rfl⟩


theorem grown_own (w : World) (n : Nat) (h0 : 0 < n) (h48 : n * 16 ≤ 281474976710656) :
    (w.drew.alloc (.cells (Builtin.zeroCells (Value.string ⟨#[]⟩).cells n ++ Builtin.zeroCells (Value.string ⟨#[]⟩).cells (grownCap w n 0 9 - n)) 9)).ownsRow w.heap.size 9 1 (.slice (some ⟨w.heap.size, 0, none⟩) 0 (grownCap w n 0 9)) 0 [] := by
  have hc : n ≤ grownCap w n 0 9 ∧ grownCap w n 0 9 ≤ maxLen := by
    have h2 := Nat.mod_lt (w.tape w.drawn (Question.appendCap n 0 9)) (show 0 < 2 ^ 63 - n by omega)
    show n ≤ n + w.tape w.drawn (Question.appendCap n 0 9) % (2 ^ 63 - n) ∧ n + w.tape w.drawn (Question.appendCap n 0 9) % (2 ^ 63 - n) ≤ 9223372036854775807
    omega
  refine ⟨rfl, .inr ⟨w.heap.size, grownCap w n 0 9, _, rfl, Nat.le_refl _, heap_alloc_new w.drew _, Nat.zero_le _, hc.2, ?_, by simp⟩⟩
  simp [Builtin.zeroCells, Value.cells]
  omega

set_option maxHeartbeats 1000000 in
theorem grow_pos (n : Nat) (h0 : 0 < n) (h48 : n * 16 ≤ 281474976710656) (w : World) : Calls Try.prog 50 #[.slice none 0 0, .int .i64 n] w (GrowPost n w) := by
  obtain ⟨i0, hi, hz0, hz1, hz2⟩ := info_parts info9s
  have hrun := fun (ty : TypeId) => Lib.run_append_nil_zeros (P := Try.prog) w 22 3 ty 9 i0 (.string ⟨#[]⟩) .i64 .i64 Try.underlying22 Try.underlying3 hi hz0 n h0 (by omega) (by omega) (by rw [hz2]; exact h48)
  have hown := grown_own w n h0 h48
  have hc : n ≤ grownCap w n 0 9 := by
    unfold grownCap Question.cut
    simp
  generalize grownCap w n 0 9 = cap at *
  have HR := Lib.hid hrun
  clear hrun
  have HO := Lib.hid hown
  clear hown
  go_enter Try.func50, Try.ntmps50
  go_wp2_with (first | (at_builtin; refine Lib.wpList_append_run _ rfl (.tmp 20) (.tmp 21) 22 3 rfl _ _ rfl rfl _ _ (HR.out _) ?_))
  go_ret
  exact .inr ⟨cap, h0, hc, rfl, HO.out, ((Below.refl _ _).drew).alloc (Nat.le_refl _) _⟩

/-- The cells of a list of texts. -/
def strsV (l : List ByteArray) : List Value := l.map Value.string
theorem strsV_len (l : List ByteArray) : (strsV l).length = l.length := by simp [strsV]
theorem strsV_append (l m : List ByteArray) : strsV (l ++ m) = strsV l ++ strsV m := by simp [strsV]
theorem strsV_one (l : List ByteArray) : ∀ u ∈ strsV l, u.oneCell' = true := by
  intro u hu
  obtain ⟨x, _, rfl⟩ := List.mem_map.1 hu
  rfl
theorem C_cells {w : World} {A : Option Addr} {l : List ByteArray} (hr : Kd.C Kd.string w A l.length l) {ad : Addr} (ha : A = some ad) : ∀ j u, (strsV l)[j]? = some u → w.cell? (ad.add j) = some u := by
  intro j u hu
  have hj : j < l.length := by
    have := (List.getElem?_eq_some_iff.1 hu).1
    rw [strsV_len] at this
    exact this
  obtain ⟨ad', e0, hx⟩ := Kd.at_string hr (j : Int) (by omega) (by omega)
  rw [Int.toNat_natCast] at hx
  rw [ha] at e0
  cases e0
  rw [hx, ← hu]
  simp [strsV, rdOf, List.getD_eq_getElem?_getD, hj]

theorem wpList_append_fits_C {P : Program} (w : World) {ops : Array Oper} {rest : List Oper} {o : Oper} {a : Act} {Q : Exit → Act → World → Prop}
    (hg : o.guard = none) (s x : Operand) (t : TypeId) (hop : o.op = Op.call { callee := Callee.builtin Builtin.append, args := #[s, x], argTypes := #[t, t] })
    (base : Nat) (e : TypeId) (i : TypeInfo) (h1 : P.underlying t = some (.slice e)) (h2 : P.info? e = some i) (h4 : i.size = 1)
    (g k cap : Nat) (xs : List Value) (hs : a.eval s = .slice (some ⟨g, 0, none⟩) k cap) (hown : w.ownsRow base e 1 (.slice (some ⟨g, 0, none⟩) k cap) k xs) (A : Option Addr) (c : Nat) (l : List ByteArray) (hx : a.eval x = .slice A l.length c)
    (hr : Kd.C Kd.string w A l.length l) (b1 : k + l.length ≤ cap)
    (hK : ∀ w', w'.ownsRow base e 1 (.slice (some ⟨g, 0, none⟩) (k + l.length) cap) (k + l.length) (xs ++ strsV l) → w.grownBy w' (some g) → wpList P ops Q rest (a.put o.dst (.slice (some ⟨g, 0, none⟩) (k + l.length) cap)) w') :
    wpList P ops Q (o :: rest) a w := by
  cases A with
  | some ad => exact wpList_append_fits w hg s x t hop base e i 1 h1 h2 h4 g k cap xs hs hown ad l.length c (strsV l) hx (by rw [strsV_len, Nat.mul_one]) (C_cells hr rfl) (strsV_one l) b1 hK
  | none =>
    have h0 : l.length = 0 := by
      rcases Nat.eq_zero_or_pos l.length with h | h
      · exact h
      · obtain ⟨ad, e0, _⟩ := Kd.at_string hr 0 (by omega) (by omega)
        cases e0
    have hl : l = [] := List.eq_nil_of_length_eq_zero h0
    subst hl
    refine wpList_plain hg fun K hK' => ?_
    have hrun : (Builtin.append_ #[t, t] o.type #[.slice (some ⟨g, 0, none⟩) k cap, .slice none 0 c]).run P w = .ok (.slice (some ⟨g, 0, none⟩) k cap) w := by
      have hkc : k ≤ cap := by simpa using b1
      simp [Builtin.append_, run_underlying h1, sizeOf, typeInfo, h2, Builtin.lenOf, Builtin.firstCells, hkc, storeCells]
    unfold Oper.wp
    simp [execOp, hop, resolve, invoke, builtin, hs, hx, hrun, Result.andThen]
    exact hK' _ _ (by simpa [strsV] using hK w (by simpa [strsV] using hown) (World.grownBy.refl _ _))

/-- What Concat leaves: a row of its own, or nil where there is nothing. -/
def ConcatPost (l : List ByteArray) (w : World) (e : Ending) (w' : World) : Prop :=
  (l = [] ∧ e = .returned (.slice none 0 0) ∧ Below w.heap.size w w') ∨
  (∃ cap, 0 < l.length ∧ e = .returned (.slice (some ⟨w.heap.size, 0, none⟩) l.length cap) ∧ w'.ownsRow w.heap.size 9 1 (.slice (some ⟨w.heap.size, 0, none⟩) l.length cap) l.length (strsV l) ∧ Below w.heap.size w w')



theorem grow_any (n : Nat) (h48 : n * 16 ≤ 281474976710656) (w : World) : Calls Try.prog 50 #[.slice none 0 0, .int .i64 n] w (GrowPost n w) := by
  rcases Nat.eq_zero_or_pos n with rfl | h
  · exact grow_zero w
  · exact grow_pos n h h48 w

theorem wpList_append_nil_nil {P : Program} (w : World) {ops : Array Oper} {rest : List Oper} {o : Oper} {a : Act} {Q : Exit → Act → World → Prop}
    (hg : o.guard = none) (s x : Operand) (t : TypeId) (hop : o.op = Op.call { callee := Callee.builtin Builtin.append, args := #[s, x], argTypes := #[t, t] })
    (e : TypeId) (i : TypeInfo) (h1 : P.underlying t = some (.slice e)) (h2 : P.info? e = some i)
    (hs : a.eval s = .slice none 0 0) (A : Option Addr) (c : Nat) (hx : a.eval x = .slice A 0 c)
    (hK : wpList P ops Q rest (a.put o.dst (.slice none 0 0)) w) : wpList P ops Q (o :: rest) a w := by
  refine wpList_plain hg fun K hK' => ?_
  have hrun : (Builtin.append_ #[t, t] o.type #[.slice none 0 0, .slice A 0 c]).run P w = .ok (.slice none 0 0) w := by
    cases A <;> simp [Builtin.append_, run_underlying h1, sizeOf, typeInfo, h2, Builtin.lenOf, Builtin.firstCells, loadCells, loadCellsFrom]
  unfold Oper.wp
  simp [execOp, hop, resolve, invoke, builtin, hs, hx, hrun, Result.andThen]
  exact hK' _ _ hK

/-- The second loop of Concat, round by round. -/
structure CRel (w : World) (cap : Nat) (xs : List ByteArray) (wr : World) : Prop where
  own : wr.ownsRow w.heap.size 9 1 (.slice (some ⟨w.heap.size, 0, none⟩) xs.length cap) xs.length (strsV xs)
  bel : Below w.heap.size w wr
theorem CRel.next {w wr w1 : World} {cap : Nat} {xs : List ByteArray} (h : CRel w cap xs wr) (l : List ByteArray) (h1 : w1.ownsRow w.heap.size 9 1 (.slice (some ⟨w.heap.size, 0, none⟩) (xs.length + l.length) cap) (xs.length + l.length) (strsV xs ++ strsV l))
    (hg : wr.grownBy w1 (some w.heap.size)) : CRel w cap (xs ++ l) w1 :=
  ⟨by rw [List.length_append, strsV_append]; exact h1, h.bel.grown hg h.bel.size (fun k hk => by cases hk; exact Nat.le_refl _)⟩

set_option maxHeartbeats 2000000 in
theorem concat_any (A B : Option Addr) (c d : Nat) (l m : List ByteArray) (g c2 : Nat) (w : World) (hl : Kd.C Kd.string w A l.length l) (hm : Kd.C Kd.string w B m.length m)
    (hg0 : w.cell? ⟨g, 0, none⟩ = some (.slice A l.length c)) (hg1 : w.cell? ⟨g, 1, none⟩ = some (.slice B m.length d)) (hsum : (l.length + m.length) * 16 ≤ 281474976710656) :
    Calls Try.prog 42 #[.slice (some ⟨g, 0, none⟩) 2 c2] w (ConcatPost (l ++ m) w) := by
  obtain ⟨i0, hi, hz0, hz1, hz2⟩ := info_parts info9s
  obtain ⟨n, hn⟩ : ∃ n, n = l.length + m.length := ⟨_, rfl⟩
  have hn48 : n * 16 ≤ 281474976710656 := by rw [hn]; exact hsum
  have HN := Lib.hid hn
  clear hn
  have hL := Lib.hid hl
  have hM := Lib.hid hm
  clear hl hm
  have hgl : g < w.heap.size := World.block_lt_of_cell? w _ hg0
  go_enter Try.func42, Try.ntmps42
  go_wp2
  go_loop [3, 5, 11] (fun s _ i => (s = .int .i64 0 ∧ i = .int .i64 0) ∨ (s = .int .i64 l.length ∧ i = .int .i64 1) ∨ (s = .int .i64 (n : Int) ∧ i = .int .i64 2)) (fun _ _ i => 2 - (intOf i).toNat)
  case atStart => exact .inl ⟨rfl, rfl⟩
  case round =>
    rcases hrel with ⟨rfl, rfl⟩ | ⟨rfl, rfl⟩ | ⟨rfl, rfl⟩
    · have hneg : decide ((l.length : Int) < 0) = false := by simp
      go_wp2
      go_round
      case rel => exact .inr (.inl ⟨rfl, rfl⟩)
      case measure => simp [intOf]
    · have hneg : decide ((l.length : Int) + (m.length : Int) < 0) = false := by simp; omega
      go_wp2
      go_round
      case rel => exact .inr (.inr ⟨by rw [HN.out]; simp, rfl⟩)
      case measure => simp [intOf]
    · go_wp2_with fail
      refine (grow_any n hn48 _).mono ?_
      rintro e w1 (⟨hn0, rfl, rfl⟩ | ⟨cap, hn0, hcap, rfl, hown, hbel⟩)
      · have hl0 : l = [] := List.eq_nil_of_length_eq_zero (by have := HN.out; omega)
        have hm0 : m = [] := List.eq_nil_of_length_eq_zero (by have := HN.out; omega)
        subst hl0 hm0
        go_wp2
        go_loop [6, 8, 27] (fun v _ i => v = .slice none 0 0 ∧ (i = .int .i64 0 ∨ i = .int .i64 1 ∨ i = .int .i64 2)) (fun _ _ i => 2 - (intOf i).toNat)
        case atStart => exact ⟨rfl, .inl rfl⟩
        case round =>
          obtain ⟨rfl, rfl | rfl | rfl⟩ := hrel
          · go_wp2_with (at_builtin; refine wpList_append_nil_nil _ rfl (.tmp 31) (.tmp 32) 22 rfl 9 i0 Try.underlying22 hi rfl _ _ rfl ?_)
            go_round
            case rel => exact ⟨rfl, .inr (.inl rfl)⟩
            case measure => simp [intOf]
          · go_wp2_with (at_builtin; refine wpList_append_nil_nil _ rfl (.tmp 31) (.tmp 32) 22 rfl 9 i0 Try.underlying22 hi rfl _ _ rfl ?_)
            go_round
            case rel => exact ⟨rfl, .inr (.inr rfl)⟩
            case measure => simp [intOf]
          · go_wp2
            go_ret
            exact .inl ⟨rfl, rfl, Below.refl _ _⟩
      · have hC : CRel w cap [] w1 := ⟨hown, hbel⟩
        clear hown hbel
        have hcap' : l.length + m.length ≤ cap := by have := HN.out; omega
        have hpos : 0 < (l ++ m).length := by have := HN.out; rw [List.length_append]; omega
        go_wp2
        go_loopw [6, 8, 27] (fun v _ i wr => (v = .slice (some ⟨w.heap.size, 0, none⟩) 0 cap ∧ i = .int .i64 0 ∧ CRel w cap [] wr) ∨ (v = .slice (some ⟨w.heap.size, 0, none⟩) l.length cap ∧ i = .int .i64 1 ∧ CRel w cap l wr) ∨
          (v = .slice (some ⟨w.heap.size, 0, none⟩) (l ++ m).length cap ∧ i = .int .i64 2 ∧ CRel w cap (l ++ m) wr)) (fun _ _ i _ => 2 - (intOf i).toNat)
        case atStart => exact .inl ⟨rfl, rfl, hC⟩
        case round =>
          rcases hrel with ⟨rfl, rfl, hR⟩ | ⟨rfl, rfl, hR⟩ | ⟨rfl, rfl, hR⟩
          · have q0 : wr.cell? ⟨g, 0, none⟩ = some (.slice A l.length c) := (hR.bel.cell (p := ⟨g, 0, none⟩) hgl).trans hg0
            go_wp2_with (at_builtin; refine wpList_append_fits_C _ rfl (.tmp 31) (.tmp 32) 22 rfl w.heap.size 9 i0 Try.underlying22 hi hz1 w.heap.size 0 cap _ rfl hR.own A c l rfl (Kd.C_below hL.out hR.bel) (by omega) ?_; intro w2 hown2 hg2)
            have hN := hR.next l (by simpa using hown2) hg2
            go_roundw
            case rel => exact .inr (.inl ⟨by simp, rfl, by simpa using hN⟩)
            case measure => simp [intOf]
          · have q1 : wr.cell? ⟨g, 1, none⟩ = some (.slice B m.length d) := (hR.bel.cell (p := ⟨g, 1, none⟩) hgl).trans hg1
            go_wp2_with (at_builtin; refine wpList_append_fits_C _ rfl (.tmp 31) (.tmp 32) 22 rfl w.heap.size 9 i0 Try.underlying22 hi hz1 w.heap.size l.length cap _ rfl hR.own B d m rfl (Kd.C_below hM.out hR.bel) (by omega) ?_; intro w2 hown2 hg2)
            have hN := hR.next m hown2 hg2
            go_roundw
            case rel => exact .inr (.inr ⟨by simp, rfl, hN⟩)
            case measure => simp [intOf]
          · go_wp2
            go_ret
            exact .inr ⟨cap, hpos, rfl, hR.own, hR.bel⟩
end Go.Proofs.Ytodonkgheffibaa.Hand
