/- ClockPeaks, walked. -/
import Derived.Test.YtgcdldbfikodaaaDoorPureN
import Derived.OwnWalk
namespace Go.Proofs.YtgcdldbfikodaaaDoor.Hand
open Go.RowKit Go.Sort Go.Lib Go.Proofs.YtgcdldbfikodaaaDoorW.PrintWords Go.Proofs.YtgcdldbfikodaaaDoor.XA

theorem wpList_append_bands {P : Program} (w : World) {ops : Array Oper} {rest : List Oper} {o : Oper} {a : Act} {Q : Exit → Act → World → Prop}
    (hg : o.guard = none) (s x : Operand) (t : TypeId) (hop : o.op = Op.call { callee := Callee.builtin Builtin.append, args := #[s, x], argTypes := #[t, t] })
    (base : Nat) (e : TypeId) (i : TypeInfo) (h1 : P.underlying t = some (.slice e)) (h2 : P.info? e = some i) (h4 : i.size = 2)
    (g k cap : Nat) (xs : List Value) (hs : a.eval s = .slice (some ⟨g, 0, none⟩) k cap) (hown : w.ownsRow base e 2 (.slice (some ⟨g, 0, none⟩) k cap) k xs) (A : Option Addr) (c : Nat) (l : List S37) (hx : a.eval x = .slice A l.length c)
    (hr : Kd.C k37 w A l.length l) (b1 : k + l.length ≤ cap)
    (hK : ∀ w', w'.ownsRow base e 2 (.slice (some ⟨g, 0, none⟩) (k + l.length) cap) (k + l.length) (xs ++ bandsV l) → w.grownBy w' (some g) → wpList P ops Q rest (a.put o.dst (.slice (some ⟨g, 0, none⟩) (k + l.length) cap)) w') :
    wpList P ops Q (o :: rest) a w := by
  cases A with
  | some ad => exact wpList_append_fits w hg s x t hop base e i 2 h1 h2 h4 g k cap xs hs hown ad l.length c (bandsV l) hx (bandsV_length l) (bands_cells hr ad rfl) (bandsV_one l) b1 hK
  | none =>
    have h0 : l.length = 0 := by
      rcases Nat.eq_zero_or_pos l.length with h | h
      · exact h
      · obtain ⟨ad, c, e0, _⟩ := Kd.C_get hr z37 0 (by omega) (by omega)
        cases e0
    have hl : l = [] := List.eq_nil_of_length_eq_zero h0
    subst hl
    refine wpList_plain hg fun K hK' => ?_
    have hrun : (Builtin.append_ #[t, t] o.type #[.slice (some ⟨g, 0, none⟩) k cap, .slice none 0 c]).run P w = .ok (.slice (some ⟨g, 0, none⟩) k cap) w := by
      have hkc : k ≤ cap := by simpa using b1
      simp [Builtin.append_, run_underlying h1, sizeOf, typeInfo, h2, Builtin.lenOf, Builtin.firstCells, hkc, storeCells]
    unfold Oper.wp
    simp [execOp, hop, resolve, invoke, builtin, hs, hx, hrun, Result.andThen]
    exact hK' _ _ (by simpa [bandsV] using hK w (by simpa [bandsV] using hown) (World.grownBy.refl _ _))

theorem C_new (w : World) (x : S37) : Kd.C k37 (w.alloc (.cells #[.int .i64 x.f0, .int .i64 x.f1] 37)) (some ⟨w.heap.size, 0, none⟩) [x].length [x] := by
  refine C_of_cells (show (1 : Nat) ≤ 281474976710656 by decide) fun j u hu => ?_
  rw [World.cell?_alloc_at _ _ _ _ rfl]
  simpa [bandsV] using hu
theorem info37s : (Tryd.prog.info? 37).map (fun i => (i.zero, i.size, i.bytes)) = some (some (.agg #[.int .i64 0, .int .i64 0]), 2, 16) := by kernel_rfl
set_option maxHeartbeats 4000000 in
set_option maxRecDepth 20000 in
theorem peaks_any (A : Option Addr) (c : Nat) (l : List S37) (t : Int) (w : World) (hr : Kd.C k37 w A l.length l) (hc : l.length ≤ c) (hb : (l.length + 1) * 16 ≤ 281474976710656) (L : Laid w) :
    Calls Tryd.prog 8 #[.slice A l.length c, .int .i64 t] w fun e w' => e = .returned (.bool true) ∧ Kept w w' := by
  obtain ⟨i0, hi, hz0, hz1, hz2⟩ := info_parts info37s
  obtain ⟨z, hzw⟩ : ∃ z, z = w := ⟨_, rfl⟩
  have hz : Kept z w := by rw [hzw]; exact Kept.refl _
  suffices H : Calls Tryd.prog 8 #[.slice A l.length c, .int .i64 t] w fun e w' => e = .returned (.bool true) ∧ Kept z w' by rw [hzw] at H; exact H
  rw [← hzw] at L hr
  clear hzw
  have AW := fun w h => awake_any z L w h
  have HR := Lib.hid hr
  have HC := Lib.hid hc
  clear hr L hc
  go_enter Tryd.func8, Tryd.ntmps8
  go_wp2_with fail
  refine (AW _ hz).mono ?_
  rintro e w1 ⟨rfl, hz1'⟩
  have HZ1 := Lib.hid hz1'
  have hr1 := Kd.C_below HR.out hz1'
  have HR1 := Lib.hid hr1
  clear AW hz hr1 hz1'
  have hw : IntKind.i64.wrap ((l.length : Int) + 1) = (l.length + 1 : Nat) := by rw [IntKind.wrap_i64]; omega
  obtain ⟨n1, hn1⟩ : ∃ n1, n1 = l.length + 1 := ⟨_, rfl⟩
  rw [← hn1] at hw hb
  have HN := Lib.hid hn1
  have hle : l.length ≤ n1 := by omega
  have hne : ¬ n1 = 0 := by omega
  have hl48 : l.length ≤ 281474976710656 := by omega
  have HL48 := Lib.hid hl48
  clear hn1 hl48
  have HBL : Hid (Below w1.heap.size w1 w1) := Lib.hid (Below.refl _ _)
  go_wp2_with (first
    | (at_make; refine wpList_make_own _ rfl (.const (.int .i64 0)) (.tmp 13) 35 rfl w1.heap.size 37 i0 _ 2 Tryd.underlying35 hi hz0 hz1 .i64 .i64 _ n1 rfl rfl rfl (by rw [hz2]; omega) (Nat.le_trans (by omega : n1 ≤ 281474976710656) (by decide)) (Nat.le_refl _) ?_; intro w2 hown1 hg1; have hB1 := Lib.hid ((Below.refl w1.heap.size w1).grown hg1 (Nat.le_refl _) (fun k hk => by cases hk)); have hC1 : Kd.C k37 w2 A l.length l := Kd.C_below HR1.out hB1.out)
    | (at_builtin; refine wpList_append_bands _ rfl (.tmp 14) (.tmp 15) 35 rfl w1.heap.size 37 i0 Tryd.underlying35 hi hz1 w1.heap.size 0 n1 _ rfl hown1 A c l rfl hC1 (by have := HN.out; omega) ?_; intro w3 hown2 hg2; have hB2 := Lib.hid (hB1.out.grown hg2 hB1.out.size (fun k hk => by cases hk; exact Nat.le_refl _)); have hO2 : ∀ o, (w3.alloc o).ownsRow w1.heap.size 37 2 (.slice (some ⟨w1.heap.size, 0, none⟩) l.length n1) l.length (bandsV l) := fun o => own_move (by simpa using hown2) (fun k hk => Below.heap_alloc w3 o k (own_lt hown2 k hk)); clear hown2 hown1 hg1 hg2 hC1 hB1)
    | (at_builtin; refine wpList_append_bands _ rfl (.tmp 16) (.tmp 18) 35 rfl w1.heap.size 37 i0 Tryd.underlying35 hi hz1 w1.heap.size l.length n1 _ rfl (hO2 _) (some ⟨w3.heap.size, 0, none⟩) 1 [⟨-7, 0⟩] rfl (C_new w3 ⟨-7, 0⟩) (by have := HN.out; simp; omega) ?_; intro w4 hown3 hg3; have hB3 := Lib.hid ((hB2.out.alloc (hB2.out.size) _).grown hg3 (by simp; have := hB2.out.size; omega) (fun k hk => by cases hk; exact Nat.le_refl _)); clear hO2 hg3 hB2))
  have hG : w4.heap[w1.heap.size]? = some (.cells (bandsV (l ++ [⟨-7, 0⟩])).toArray 37 (0, 0)) := by
    rw [bandsV_app]
    exact blk_of_own (base := w1.heap.size) (n := n1) (by have e := HN.out; subst e; exact hown3)
  have QC : ∀ w', Below w4.heap.size w4 w' → ∀ j u, (bandsV (l ++ [⟨-7, 0⟩]))[j]? = some u → w'.cell? ⟨w1.heap.size, j, none⟩ = some u := by
    intro w' hb j u hu
    have hlt : w1.heap.size < w4.heap.size := (Array.getElem?_eq_some_iff.1 hG).1
    rw [hb.cell (p := ⟨w1.heap.size, j, none⟩) hlt, cell_of_row _ w1.heap.size j _ 37 (0, 0) hG]
    simpa using hu
  have KC : ∀ w', Below w4.heap.size w4 w' → Kd.C k37 w' (some ⟨w1.heap.size, 0, none⟩) l.length l := by
    intro w' hb
    refine C_of_cells HL48.out fun j u hu => QC w' hb j u ?_
    rw [bandsV_app, List.getElem?_append_left (List.getElem?_eq_some_iff.1 hu).1]
    exact hu
  have KR : ∀ w', Below w4.heap.size w4 w' → Kd.C k37 w' A l.length l := fun w' hb => Kd.C_below (Kd.C_below HR1.out hB3.out) hb
  have HG := Lib.hid QC
  have HK := Lib.hid KC
  have HKR := Lib.hid KR
  clear hown3 hG QC KC KR hi hz0 hz1 hz2 i0
  have PK := (peak_any (some ⟨w1.heap.size, 0, none⟩) n1 l t w4 (HK.out _ (Below.refl _ _)) HL48.out)
  refine PK.mono ?_
  rintro e w5 ⟨rfl, hb5⟩
  clear PK
  have q7 : w5.cell? ⟨w1.heap.size, l.length * 2, none⟩ = some (.int .i64 (-7)) := HG.out w5 hb5 _ _ (by rw [bandsV_app, List.getElem?_append_right (by rw [bandsV_length]; exact Nat.le_refl _), bandsV_length, Nat.sub_self]; rfl)
  have HB5 := Lib.hid hb5
  clear hb5
  go_wp2_with fail
  go_loopw [8, 9] (fun v8 v9 wr => ∃ k : Nat, v8 = .bool true ∧ v9 = .int .i64 k ∧ k ≤ l.length ∧ Hid (Below w4.heap.size w4 wr)) (fun _ v9 _ => l.length - (RowKit.intOf v9).toNat)
  case atStart => exact ⟨0, rfl, rfl, by omega, HB5⟩
  case round =>
    obtain ⟨k, rfl, rfl, hk, hbr⟩ := hrel
    by_cases hlt : k < l.length
    · obtain ⟨ad, e0, x0, x1⟩ := at_T37 (HKR.out _ hbr.out) (k : Int) (by omega) (by omega)
      obtain ⟨a2, e2, y0, y1⟩ := at_T37 (HK.out _ hbr.out) (k : Int) (by omega) (by omega)
      subst e0
      obtain rfl := Option.some.inj e2
      rw [Int.toNat_natCast] at x0 x1 y0 y1
      generalize (rd_T37 l k).f0 = xa at x0 y0
      generalize (rd_T37 l k).f1 = xb at x1 y1
      clear e2 q7
      have ea : (⟨w1.heap.size, 0, none⟩ : Addr).add (k * 2) = ⟨w1.heap.size, k * 2, none⟩ := by
        unfold Addr.add
        split
        · rename_i h
          rw [h]
        · simp
      rw [ea] at y0 y1
      clear ea
      dsimp only at y1
      have mx := mixed
      have bk : 0 ≤ (k : Int) ∧ (k : Int) < (l.length : Int) + 1 := by omega
      go_wp2_with fail
      go_quiet (fail)
      have hbn : Below w4.heap.size w4 (wr.drewN nq) := hbr.out.trans ⟨rfl, rfl, rfl, Nat.le_refl _, fun _ _ => rfl⟩
      have HBN := Lib.hid hbn
      clear hbn x0 x1 y0 y1 bk
      generalize wr.drewN nq = wq at HBN ⊢
      have hw1 : IntKind.i64.wrap ((k : Int) + 1) = (k : Int) + 1 := by have := HL48.out; rw [IntKind.wrap_i64]; omega
      go_wp2_with fail
      refine ⟨⟨k + 1, by first | rfl | simp, by congr 1, by omega, HBN⟩, by simp [RowKit.intOf]; omega⟩
    · have RP := (rpeak_any A c l t wr (HKR.out _ hbr.out) HC.out HL48.out)
      generalize peakS l t = r at RP ⊢
      clear q7
      go_wp2_with fail
      refine RP.mono ?_
      rintro e w6 ⟨rfl, hd⟩
      have hfin : Kept z w6 := HZ1.out.then (hB3.out.trans ((hbr.out.trans (hd.below.mono hbr.out.size)).mono hB3.out.size))
      clear RP
      go_wp2_with fail
      go_ret
      exact ⟨by simp, hfin⟩
end Go.Proofs.YtgcdldbfikodaaaDoor.Hand
