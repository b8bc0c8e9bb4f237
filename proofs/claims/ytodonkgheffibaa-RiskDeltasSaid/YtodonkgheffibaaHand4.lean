/- risk.may by hand: may a delta be? -/
import Derived.Test.YtodonkgheffibaaHand1
import Derived.Test.YtodonkgheffibaaHand3
import Derived.Test.YtodonkgheffibaaPureA
namespace Go.Proofs.Ytodonkgheffibaa.Hand
open Go.RowKit Go.Proofs.YtodonkgheffibaaW.PrintWords Go.Proofs.YtodonkgheffibaaW.PrintLast Go.Proofs.YtodonkgheffibaaW.PrintMore
open Go.Proofs.Ytodonkgheffibaa

theorem rising_any (A : Option Addr) (c : Nat) (l : List ByteArray) (w : World) (hr : Kd.C Kd.string w A l.length l) (hc : l.length ≤ c) :
    Calls Try.prog 28 #[.slice A l.length c] w fun e w' => e = .returned (.bool (PA.risingS l)) ∧ ∃ n, w' = w.drewN n :=
  (XA.risk_rising_string.calls (l.length + 1) A c l _ w hr hc (PA.rising_total l hr.2.1 (Nat.lt_succ_self _))).mono fun _ _ ⟨h1, h2⟩ => ⟨h1, h2.out⟩
theorem less_any (A B : Option Addr) (c d : Nat) (l m : List ByteArray) (w : World) (hl : Kd.C Kd.string w A l.length l) (hlc : l.length ≤ c) (hm : Kd.C Kd.string w B m.length m) (hmc : m.length ≤ d) (ha : l.length ≤ 8796093022208) :
    Calls Try.prog 30 #[.slice A l.length c, .slice B m.length d] w fun e w' => ∃ v0_ : Value, e = .returned v0_ ∧ Kd.R Kd.string 9 w' w.heap.size (fun _ => True) v0_ (PA.lessS l m) ∧ Below w.heap.size w w' :=
  XA.risk_less_string.calls (l.length + m.length + 1) A c l B d m _ w hl hlc hm hmc (PA.less_total l m hm.2.1 ha (Nat.lt_succ_self _))

/-- May this part of a delta be? -/
def partB (l : List ByteArray) : Bool := decide (l.length ≤ 1000) && (toksB l && PA.risingS l)
def mayB (v : Int) (a g : List ByteArray) : Bool := partB a && partB g && (decide (1 ≤ v) && ((PA.lessS a g).length == a.length))

def MayPost (r : Bool) (w : World) (e : Ending) (w' : World) : Prop := e = .returned (.bool r) ∧ Below w.heap.size w w'

theorem ret_beq (a b : Nat) : Ending.returned (.bool ((a : Int) == (b : Int))) = .returned (.bool (a == b)) := by
  congr 2
  rw [Bool.eq_iff_iff, beq_iff_eq, beq_iff_eq]
  omega
theorem may_no0 {v : Int} {a g : List ByteArray} (h : partB a = false) : mayB v a g = false := by simp [mayB, h]
theorem may_no1 {v : Int} {a g : List ByteArray} (h : partB g = false) : mayB v a g = false := by simp [mayB, h]
set_option maxHeartbeats 4000000 in
theorem may_any (v : Int) (A B : Option Addr) (c d : Nat) (l m : List ByteArray) (w : World) (hl : Kd.C Kd.string w A l.length l) (hlc : l.length ≤ c) (hm : Kd.C Kd.string w B m.length m) (hmc : m.length ≤ d) :
    Calls Try.prog 32 #[.agg #[.int .i64 v, .slice A l.length c, .slice B m.length d]] w (MayPost (mayB v l m) w) := by
  have hL := Lib.hid hl
  have hM := Lib.hid hm
  clear hl hm
  obtain ⟨W0, hW0⟩ : ∃ W0, W0 = (w.alloc (.cells #[.int .i64 v, .slice A l.length c, .slice B m.length d] 26)).alloc (.cells #[.slice A l.length c, .slice B m.length d] 22) := ⟨_, rfl⟩
  have HB0 : Below w.heap.size w W0 := by rw [hW0]; exact ((Below.refl _ _).alloc (Nat.le_refl _) _).alloc (by simp) _
  have q0 : W0.cell? ⟨w.heap.size + 1, 0, none⟩ = some (.slice A l.length c) := by rw [hW0]; simp [go_sem]
  have q1 : W0.cell? ⟨w.heap.size + 1, 1, none⟩ = some (.slice B m.length d) := by rw [hW0]; simp [go_sem]
  have q2 : W0.cell? ⟨w.heap.size, 0, none⟩ = some (.int .i64 v) := by rw [hW0]; simp [go_sem]
  have q3 : W0.cell? ⟨w.heap.size, 1, none⟩ = some (.slice A l.length c) := by rw [hW0]; simp [go_sem]
  have q4 : W0.cell? ⟨w.heap.size, 2, none⟩ = some (.slice B m.length d) := by rw [hW0]; simp [go_sem]
  have HB := HB0
  clear HB0
  have HW := Lib.hid hW0
  clear hW0
  go_enter Try.func32, Try.ntmps32
  go_wp2
  rw [← HW.out]
  go_loopw [4, 11] (fun _ i wr => (∃ n, wr = W0.drewN n) ∧ (i = .int .i64 0 ∨ (i = .int .i64 1 ∧ partB l = true) ∨ (i = .int .i64 2 ∧ partB l = true ∧ partB m = true))) (fun _ i _ => 2 - (intOf i).toNat)
  case atStart => exact ⟨⟨0, rfl⟩, .inl rfl⟩
  case round =>
    obtain ⟨hw, rfl | ⟨rfl, hp⟩ | ⟨rfl, hp, hp1⟩⟩ := hrel
    · obtain ⟨n, rfl⟩ := hw
      by_cases h1 : l.length ≤ 1000
      · have b1 : decide ((1000 : Int) < (l.length : Int)) = false := by simp; omega
        have b1' : decide (1000 < l.length) = false := by simp; omega
        cases h2 : toksB l
        · have H2 := Lib.hid h2
          go_wp2_with (go_at_call 27; refine (tokens_any _ _ _ _ (Kd.C_below hL.out (by repeat (first | exact HB | apply pw_below_drewN)))).mono ?_; rw [h2]; clear h2; rintro e w' ⟨rfl, rfl⟩)
          go_ret
          exact ⟨by rw [may_no0 (by simp [partB, H2.out])]; rfl, by repeat (first | exact HB | apply pw_below_drewN)⟩
        · have H2 := Lib.hid h2
          cases h3 : PA.risingS l
          · have H3 := Lib.hid h3
            go_wp2_with (first | (go_at_call 27; refine (tokens_any _ _ _ _ (Kd.C_below hL.out (by repeat (first | exact HB | apply pw_below_drewN)))).mono ?_; rw [h2]; clear h2; rintro e w' ⟨rfl, rfl⟩) | (go_at_call 28; refine (rising_any _ _ _ _ (Kd.C_below hL.out (by repeat (first | exact HB | apply pw_below_drewN))) hlc).mono ?_; rw [h3]; clear h3; rintro e w' ⟨rfl, n2, rfl⟩))
            go_ret
            exact ⟨by rw [may_no0 (by simp [partB, H3.out])]; rfl, by repeat (first | exact HB | apply pw_below_drewN)⟩
          · have H3 := Lib.hid h3
            go_wp2_with (first | (go_at_call 27; refine (tokens_any _ _ _ _ (Kd.C_below hL.out (by repeat (first | exact HB | apply pw_below_drewN)))).mono ?_; rw [h2]; clear h2; rintro e w' ⟨rfl, rfl⟩) | (go_at_call 28; refine (rising_any _ _ _ _ (Kd.C_below hL.out (by repeat (first | exact HB | apply pw_below_drewN))) hlc).mono ?_; rw [h3]; clear h3; rintro e w' ⟨rfl, n2, rfl⟩))
            go_roundw
            case rel => exact ⟨⟨_, rfl⟩, .inr (.inl ⟨rfl, by simp [partB, h1, H2.out, H3.out]⟩)⟩
            case measure => simp [intOf]
      · have b1 : decide ((1000 : Int) < (l.length : Int)) = true := by simp; omega
        have b1' : decide (1000 < l.length) = true := by simp; omega
        go_wp2
        go_ret
        exact ⟨by rw [may_no0 (by simp [partB, h1])]; rfl, by repeat (first | exact HB | apply pw_below_drewN)⟩
    · have HP := Lib.hid hp
      clear hp
      obtain ⟨n, rfl⟩ := hw
      by_cases h1 : m.length ≤ 1000
      · have b1 : decide ((1000 : Int) < (m.length : Int)) = false := by simp; omega
        have b1' : decide (1000 < m.length) = false := by simp; omega
        cases h2 : toksB m
        · have H2 := Lib.hid h2
          go_wp2_with (go_at_call 27; refine (tokens_any _ _ _ _ (Kd.C_below hM.out (by repeat (first | exact HB | apply pw_below_drewN)))).mono ?_; rw [h2]; clear h2; rintro e w' ⟨rfl, rfl⟩)
          go_ret
          exact ⟨by rw [may_no1 (by simp [partB, H2.out])]; rfl, by repeat (first | exact HB | apply pw_below_drewN)⟩
        · have H2 := Lib.hid h2
          cases h3 : PA.risingS m
          · have H3 := Lib.hid h3
            go_wp2_with (first | (go_at_call 27; refine (tokens_any _ _ _ _ (Kd.C_below hM.out (by repeat (first | exact HB | apply pw_below_drewN)))).mono ?_; rw [h2]; clear h2; rintro e w' ⟨rfl, rfl⟩) | (go_at_call 28; refine (rising_any _ _ _ _ (Kd.C_below hM.out (by repeat (first | exact HB | apply pw_below_drewN))) hmc).mono ?_; rw [h3]; clear h3; rintro e w' ⟨rfl, n2, rfl⟩))
            go_ret
            exact ⟨by rw [may_no1 (by simp [partB, H3.out])]; rfl, by repeat (first | exact HB | apply pw_below_drewN)⟩
          · have H3 := Lib.hid h3
            go_wp2_with (first | (go_at_call 27; refine (tokens_any _ _ _ _ (Kd.C_below hM.out (by repeat (first | exact HB | apply pw_below_drewN)))).mono ?_; rw [h2]; clear h2; rintro e w' ⟨rfl, rfl⟩) | (go_at_call 28; refine (rising_any _ _ _ _ (Kd.C_below hM.out (by repeat (first | exact HB | apply pw_below_drewN))) hmc).mono ?_; rw [h3]; clear h3; rintro e w' ⟨rfl, n2, rfl⟩))
            go_roundw
            case rel => exact ⟨⟨_, rfl⟩, .inr (.inr ⟨rfl, HP.out, by simp [partB, h1, H2.out, H3.out]⟩)⟩
            case measure => simp [intOf]
      · have b1 : decide ((1000 : Int) < (m.length : Int)) = true := by simp; omega
        have b1' : decide (1000 < m.length) = true := by simp; omega
        go_wp2
        go_ret
        exact ⟨by rw [may_no1 (by simp [partB, h1])]; rfl, by repeat (first | exact HB | apply pw_below_drewN)⟩
    · have HP := Lib.hid hp
      have HP1 := Lib.hid hp1
      clear hp hp1
      obtain ⟨n, rfl⟩ := hw
      by_cases hv : 1 ≤ v
      · have b1 : decide ((1 : Int) ≤ v) = true := by simp [hv]
        have hlen2 : l.length ≤ 8796093022208 := by
          have := HP.out
          simp [partB] at this
          have := this.1
          omega
        have hy : mayB v l m = ((PA.lessS l m).length == l.length) := by simp [mayB, HP.out, HP1.out, hv]
        have HY := Lib.hid hy
        clear hy
        have HBn : ∀ n, Below w.heap.size w (W0.drewN n) := fun n => pw_below_drewN HB n
        have hlt : ∀ n, w.heap.size < (W0.drewN n).heap.size := fun n => World.block_lt_of_cell? W0 _ q2
        have hle : ∀ n, w.heap.size ≤ (W0.drewN n).heap.size := fun n => Nat.le_of_lt (hlt n)
        go_wp2
        go_region_held3 (fun w' => w'.cell? ⟨w.heap.size, 0, none⟩ = some (.int .i64 v) ∧ w'.cell? ⟨w.heap.size, 1, none⟩ = some (.slice A l.length c) ∧ w'.cell? ⟨w.heap.size, 2, none⟩ = some (.slice B m.length d)) (first | exact ⟨q2, q3, q4⟩ | exact ⟨qq0, qq1, qq2⟩) (first | (go_at_call 30; refine (less_any A B c d l m _ (Kd.C_below hL.out (HBn _)) hlc (Kd.C_below hM.out (HBn _)) hmc hlen2).mono ?_; rintro e w' ⟨v0_, rfl, hR, hb⟩; have qq0 := (hb.cell (p := ⟨w.heap.size, 0, none⟩) (hlt _)).trans q2; have qq1 := (hb.cell (p := ⟨w.heap.size, 1, none⟩) (hlt _)).trans q3; have qq2 := (hb.cell (p := ⟨w.heap.size, 2, none⟩) (hlt _)).trans q4; have hb2 := Lib.hid ((HBn _).trans (hb.mono (hle _))); obtain ⟨A0, c0, hv0⟩ := Kd.R_slice hR; subst hv0; clear hb hR))
        all_goals (go_wp2; go_ret; refine ⟨?_, by repeat (first | exact hb2.out | apply pw_below_drewN)⟩; rw [HY.out]; exact ret_beq _ _)
      · have b1 : decide ((1 : Int) ≤ v) = false := by simp [hv]
        have hno : mayB v l m = false := by simp [mayB, hv]
        have HNO := Lib.hid hno
        clear hno
        go_wp2
        go_quiet (fail)
        go_wp2
        go_ret
        exact ⟨by rw [HNO.out]; rfl, by repeat (first | exact HB | apply pw_below_drewN)⟩
end Go.Proofs.Ytodonkgheffibaa.Hand
