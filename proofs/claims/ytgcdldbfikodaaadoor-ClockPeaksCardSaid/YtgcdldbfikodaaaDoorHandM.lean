/- The peak, walked: the closure, the search, clock.Peak. -/
import Derived.Test.YtgcdldbfikodaaaDoorHandF
import Derived.Shelf.RegionOpenPlain
namespace Go.Proofs.YtgcdldbfikodaaaDoor.Hand
open Go.RowKit Go.Sort Go.Lib Go.Proofs.YtgcdldbfikodaaaDoorW.PrintWords Go.Proofs.YtgcdldbfikodaaaDoor.XA

def inS (x : S37) (t : Int) : Bool := decide (x.f0 ≤ t.tmod 1440) && decide (t.tmod 1440 < x.f1)
set_option maxHeartbeats 2000000 in
set_option maxRecDepth 20000 in
theorem clos_any (a b t : Int) (g : Nat) (w : World) (hp : w.cell? ⟨g, 0, none⟩ = some (.int .i64 t)) (hb : g < w.heap.size) : Calls Tryd.prog 38 #[.agg #[.int .i64 a, .int .i64 b], .pointer (some ⟨g, 0, none⟩)] w fun e w' => e = .returned (.bool (inS ⟨a, b⟩ t)) ∧ Below w.heap.size w w' := by
  have h1 : (w.alloc (.cells #[.int .i64 a, .int .i64 b] 37)).cell? ⟨g, 0, none⟩ = some (.int .i64 t) := by rw [World.cell?_alloc_past _ _ _ hb]; exact hp
  have HB := Lib.hid hb
  have HI := Lib.hid (show inS ⟨a, b⟩ t = (decide (a ≤ t.tmod 1440) && decide (t.tmod 1440 < b)) from rfl)
  clear hb
  generalize inS ⟨a, b⟩ t = r at HI
  by_cases ha : a ≤ t.tmod 1440
  · go_enter Tryd.func38, Tryd.ntmps38
    go_wp2_with fail
    go_ret
    exact ⟨by rw [HI.out]; simp [ha], (Below.refl _ _).alloc (Nat.le_refl _) _⟩
  · go_enter Tryd.func38, Tryd.ntmps38
    go_wp2_with fail
    go_ret
    refine ⟨?_, (Below.refl _ _).alloc (Nat.le_refl _) _⟩
    have hr : r = false := by rw [HI.out, decide_eq_false (by omega), Bool.false_and]
    rw [hr]
    rfl

set_option maxHeartbeats 2000000 in
set_option maxRecDepth 20000 in
theorem index_any (A : Option Addr) (c : Nat) (l : List S37) (t : Int) (g : Nat) (w : World) (hr : Kd.C k37 w A l.length l) (hp : w.cell? ⟨g, 0, none⟩ = some (.int .i64 t)) (hb : g < w.heap.size) (hl : l.length ≤ 281474976710656) :
    Calls Tryd.prog 43 #[.slice A l.length c, .func (.func 38) #[] #[.pointer (some ⟨g, 0, none⟩)]] w fun e w' => ∃ i : Int, e = .returned (.int .i64 i) ∧ (0 ≤ i ↔ l.any (inS · t) = true) ∧ Below w.heap.size w w' := by
  have HR := Lib.hid hr
  have HP := Lib.hid hp
  have HB := Lib.hid hb
  clear hr hp hb
  go_enter Tryd.func43, Tryd.ntmps43
  go_wp2_with fail
  go_loopw [5, 8] (fun _ v8 wr => ∃ k : Nat, v8 = .int .i64 k ∧ k ≤ l.length ∧ Hid ((l.take k).any (inS · t) = false) ∧ Hid (Below w.heap.size w wr)) (fun _ v8 _ => l.length - (RowKit.intOf v8).toNat)
  case atStart => exact ⟨0, rfl, by omega, Lib.hid rfl, Lib.hid (Below.refl _ _)⟩
  case round =>
    obtain ⟨k, rfl, hk, hno, hbel⟩ := hrel
    by_cases hlt : k < l.length
    · obtain ⟨ad, e0, x0, x1⟩ := at_T37 (Kd.C_below HR.out hbel.out) (k : Int) (by omega) (by omega)
      subst e0
      rw [Int.toNat_natCast] at x0 x1
      have hst : (l.take (k + 1)).any (inS · t) = ((l.take k).any (inS · t) || inS ⟨(rd_T37 l k).f0, (rd_T37 l k).f1⟩ t) := by
        have e : l.take (k + 1) = l.take k ++ [l[k]] := by rw [List.take_add_one, List.getElem?_eq_getElem hlt]; rfl
        have e2 : rd_T37 l k = l[k] := by simp [rd_T37, List.getD, List.getElem?_eq_getElem hlt]
        rw [e, List.any_append, e2]
        simp only [List.any_cons, List.any_nil, Bool.or_false]
      have hal : l.any (inS · t) = false → (l.take (k + 1)).any (inS · t) = false := by
        intro h
        rw [List.any_eq_false] at h ⊢
        exact fun x hx => h x (List.mem_of_mem_take hx)
      have CL := clos_any (rd_T37 l k).f0 (rd_T37 l k).f1 t g wr ((hbel.out.cell (p := ⟨g, 0, none⟩) HB.out).trans HP.out) (Nat.lt_of_lt_of_le HB.out hbel.out.size)
      rw [hno.out, Bool.false_or] at hst
      generalize inS ⟨(rd_T37 l k).f0, (rd_T37 l k).f1⟩ t = r at hst CL
      generalize (rd_T37 l k).f0 = xa at x0 CL
      generalize (rd_T37 l k).f1 = xb at x1 CL
      have HS := Lib.hid hst
      have HA := Lib.hid hal
      have HL := Lib.hid hl
      have hw1 : IntKind.i64.wrap ((k : Int) + 1) = (k : Int) + 1 := by rw [IntKind.wrap_i64]; omega
      clear hst hal hl
      go_wp2_with fail
      refine CL.mono ?_
      clear CL x0 x1
      rintro e w1 ⟨rfl, hb1⟩
      have hbel1 := hbel.out.trans (hb1.mono hbel.out.size)
      cases r
      · go_wp2_with fail
        refine ⟨⟨k + 1, by congr 1, by omega, Lib.hid HS.out, Lib.hid hbel1⟩, by simp [RowKit.intOf]; omega⟩
      · go_wp2_with fail
        go_ret
        refine ⟨k, rfl, ?_, hbel1⟩
        constructor
        · intro _
          cases hh : l.any (inS · t)
          · have := HA.out hh
            rw [HS.out] at this
            cases this
          · rfl
        · intro _
          omega
    · have hkk : k = l.length := by omega
      go_wp2_with fail
      go_ret
      exact ⟨-1, rfl, by have := hno.out; rw [hkk, List.take_length] at this; simp only [this]; simp, hbel.out⟩

set_option maxRecDepth 20000 in
theorem contains_any (A : Option Addr) (c : Nat) (l : List S37) (t : Int) (g : Nat) (w : World) (hr : Kd.C k37 w A l.length l) (hp : w.cell? ⟨g, 0, none⟩ = some (.int .i64 t)) (hb : g < w.heap.size) (hl : l.length ≤ 281474976710656) :
    Calls Tryd.prog 37 #[.slice A l.length c, .func (.func 38) #[] #[.pointer (some ⟨g, 0, none⟩)]] w fun e w' => e = .returned (.bool (l.any (inS · t))) ∧ Below w.heap.size w w' := by
  have I := index_any A c l t g w hr hp hb hl
  generalize l.any (inS · t) = r at I ⊢
  clear hr hp hb hl
  go_enter Tryd.func37, Tryd.ntmps37
  go_wp2_with fail
  refine I.mono ?_
  rintro e w1 ⟨i, rfl, hi, hbel⟩
  clear I
  cases r
  · have h0 : ¬ 0 ≤ i := fun h => Bool.noConfusion (hi.1 h)
    clear hi
    go_wp2_with fail
    go_ret
    exact ⟨by simp; omega, hbel⟩
  · have h0 : 0 ≤ i := hi.2 rfl
    clear hi
    go_wp2_with fail
    go_ret
    exact ⟨by simp, hbel⟩

def peakS (l : List S37) (t : Int) : Bool := decide ((dayS t).2 = 0) && decide (weekdayS (dayS t).1 < 5) && l.any (inS · t)
set_option maxHeartbeats 2000000 in
set_option maxRecDepth 20000 in
theorem peak_any (A : Option Addr) (c : Nat) (l : List S37) (t : Int) (w : World) (hr : Kd.C k37 w A l.length l) (hl : l.length ≤ 281474976710656) :
    Calls Tryd.prog 24 #[.slice A l.length c, .int .i64 t] w fun e w' => e = .returned (.bool (peakS l t)) ∧ Below w.heap.size w w' := by
  have hmf : ∀ (fn : Fn) (first cap : Array Value) (w : World), (Instr.makeFunc fn first cap).run Tryd.prog w = .ok (.func fn first cap) w := fun _ _ _ _ => rfl
  obtain ⟨g, hg⟩ : ∃ g, g = w.heap.size := ⟨_, rfl⟩
  obtain ⟨w0, hw0⟩ : ∃ w0, w0 = w.alloc (.cells #[.int .i64 t] 3) := ⟨_, rfl⟩
  have b0 : Below g w w0 := by rw [hw0, hg]; exact (Below.refl _ _).alloc (Nat.le_refl _) _
  have q0 : w0.cell? ⟨g, 0, none⟩ = some (.int .i64 t) := by rw [hw0, World.cell?_alloc_at _ _ _ _ hg]; rfl
  have s0 : g < w0.heap.size := by rw [hw0, hg]; simp
  have D : ∀ w1, Below w0.heap.size w0 w1 → Calls Tryd.prog 15 #[.int .i64 t] w1 fun e w' => e = .returned (.tuple #[.int .i64 (dayS t).1, .int .i64 (dayS t).2]) ∧ Below w0.heap.size w0 w' := fun w1 h => (clock_Day.calls t _ _ w1 (day_f t)).mono fun _ _ ⟨he, hd⟩ => ⟨he, h.trans (hd.below.mono h.size)⟩
  have W : ∀ w1, Below w0.heap.size w0 w1 → Calls Tryd.prog 22 #[.int .i64 (dayS t).1] w1 fun e w' => e = .returned (.int .i64 (weekdayS (dayS t).1)) ∧ Below w0.heap.size w0 w' := fun w1 h => (clock_Weekday.calls _ _ w1 (weekday_f _)).mono fun _ _ ⟨he, hd⟩ => ⟨he, h.trans (hd.below.mono h.size)⟩
  have C : ∀ w1, Below w0.heap.size w0 w1 → Calls Tryd.prog 37 #[.slice A l.length c, .func (.func 38) #[] #[.pointer (some ⟨g, 0, none⟩)]] w1 fun e w' => e = .returned (.bool (l.any (inS · t))) ∧ Below w0.heap.size w0 w' := fun w1 h => (contains_any A c l t g w1 (Kd.C_below (Kd.C_below hr (hg ▸ b0)) h) ((h.cell (p := ⟨g, 0, none⟩) s0).trans q0) (Nat.lt_of_lt_of_le s0 h.size) hl).mono fun _ _ ⟨he, hd⟩ => ⟨he, h.trans (hd.mono h.size)⟩
  have HB0 := Lib.hid b0
  have HS0 := Lib.hid s0
  have fin : ∀ w1, Below w0.heap.size w0 w1 → Below g w w1 := fun w1 h => b0.trans (h.mono (Nat.le_of_lt s0))
  have FIN := Lib.hid fin
  have HP := Lib.hid (show peakS l t = (decide ((dayS t).2 = 0) && decide (weekdayS (dayS t).1 < 5) && l.any (inS · t)) from rfl)
  generalize peakS l t = r at HP ⊢
  generalize l.any (inS · t) = r0 at HP C
  generalize weekdayS (dayS t).1 = k at HP W
  generalize (dayS t).1 = v1 at D W
  generalize (dayS t).2 = v2 at D HP
  suffices H : Calls Tryd.prog 24 #[.slice A l.length c, .int .i64 t] w fun e w' => e = .returned (.bool r) ∧ Below g w w' by rw [hg] at H; exact H
  have hz0 := Below.refl w0.heap.size w0
  clear b0 s0 fin hr hl
  go_enter Tryd.func24, Tryd.ntmps24
  go_wp2_with fail
  rw [← hg, ← hw0]
  clear hw0
  have HG := Lib.hid hg
  clear hg
  refine (D _ hz0).mono ?_
  rintro e w1 ⟨rfl, hz1⟩
  by_cases h2 : v2 = 0
  · have H2 := Lib.hid h2
    go_wp2_with fail
    refine (W _ hz1).mono ?_
    rintro e w2 ⟨rfl, hz2⟩
    by_cases h3 : k < 5
    · go_wp2_with fail
      refine (C _ hz2).mono ?_
      rintro e w3 ⟨rfl, hz3⟩
      go_wp2_with fail
      go_ret
      refine ⟨?_, FIN.out _ hz3⟩
      rw [HP.out, decide_eq_true H2.out, decide_eq_true h3]
      simp
    · go_wp2_with fail
      go_ret
      refine ⟨?_, FIN.out _ hz2⟩
      rw [HP.out, decide_eq_true H2.out, decide_eq_false (by omega)]
      simp
  · go_wp2_with fail
    go_ret
    refine ⟨?_, FIN.out _ hz1⟩
    rw [HP.out, decide_eq_false h2]
    simp
end Go.Proofs.YtgcdldbfikodaaaDoor.Hand
