/- An amount read, walked. -/
import Derived.Test.YtdioaclegmalpaaDoorHandB
import Derived.Lib.SlicesS
namespace Go.Proofs.YtdioaclegmalpaaDoor.Hand
open Go.RowKit Go.Sort Go.Lib Go.Proofs.YtdioaclegmalpaaDoorW.PrintWords Go.Proofs.YtdioaclegmalpaaDoor.XA

def rightS (n : Int) : Bool := decide (-9007199254740992 ≤ n ∧ n ≤ 9007199254740992)
theorem right_f (n : Int) : money_Right.f n = some (rightS n) := by
  unfold money_Right.f rightS
  by_cases h : (-9007199254740992) ≤ n <;> simp [h]
theorem rright_f (n : Int) : fareboxref05_Right.f n = some (rightS n) := by
  unfold fareboxref05_Right.f rightS
  by_cases h : (-9007199254740992) ≤ n <;> simp [h]
theorem right_k (z w : World) (h : Kept z w) (n : Int) : Calls Tryd.prog 23 #[.int .i64 n] w fun e w' => e = .returned (.bool (rightS n)) ∧ Kept z w' := (money_Right.calls n _ w (right_f n)).mono fun _ _ ⟨he, hd⟩ => ⟨he, h.drawn hd⟩
theorem rright_k (z w : World) (h : Kept z w) (n : Int) : Calls Tryd.prog 31 #[.int .i64 n] w fun e w' => e = .returned (.bool (rightS n)) ∧ Kept z w' := (fareboxref05_Right.calls n _ w (rright_f n)).mono fun _ _ ⟨he, hd⟩ => ⟨he, h.drawn hd⟩

/-- How Atoi ends. -/
def AtEnd (q : ByteArray) (n : Int) (ev : Value) : Prop := (ev = .nilIface ∧ Lib.atoiAll q.data.toList = .ok n) ∨ ((∃ t p, ev = .iface t p) ∧ ∀ m, Lib.atoiAll q.data.toList ≠ .ok m)
theorem atoi_k (z : World) (L : Laid z) (q : ByteArray) (hs : q.size ≤ 281474976710656) (w : World) (hz : Kept z w) : Calls Tryd.prog 41 #[.string q] w fun e w' => ∃ n ev, e = .returned (.tuple #[.int .i64 n, ev]) ∧ AtEnd q n ev ∧ Kept z w' := by
  cases h : Lib.atoiAll q.data.toList
  case ok v =>
    refine (Tryd.strconv_Atoi_ok q (by omega) v h w).mono fun e w' ⟨he, hw⟩ => ⟨v, .nilIface, he, Or.inl ⟨rfl, h⟩, ?_⟩
    rcases hw with rfl | ⟨t, rfl⟩
    · exact hz
    · exact hz.then (Lib.bytesWorld_below _ _ _)
  case range =>
    obtain ⟨tv, pv, hv⟩ := L.ran
    exact (Tryd.strconv_Atoi_range q hs h _ w (cell_below hz (cell_lt hv) hv) (Or.inr ⟨_, _, rfl⟩)).mono fun e w' ⟨N, he, _, _, hb⟩ => ⟨_, _, he, Or.inr ⟨⟨_, _, rfl⟩, fun m hm => by rw [h] at hm; cases hm⟩, hz.then hb⟩
  obtain ⟨tv, pv, hv⟩ := L.syn
  exact (Tryd.strconv_Atoi_syntax q hs h _ w (cell_below hz (cell_lt hv) hv) (Or.inr ⟨_, _, rfl⟩)).mono fun e w' ⟨N, he, _, _, hb⟩ => ⟨_, _, he, Or.inr ⟨⟨_, _, rfl⟩, fun m hm => by rw [h] at hm; cases hm⟩, hz.then hb⟩

theorem cut_size (s : ByteArray) (c : UInt8) : (cut1 s c).1.size ≤ s.size ∧ (cut1 s c).2.1.size ≤ s.size := by
  unfold cut1
  split
  · simp only [ByteArray.size_extract]
    omega
  · exact ⟨Nat.le_refl _, Nat.zero_le _⟩
theorem cut_parts (s : ByteArray) (c : UInt8) : (cut1 s c).1.size + (cut1 s c).2.1.size ≤ s.size := by
  unfold cut1
  split
  · simp only [ByteArray.size_extract]
    omega
  · exact Nat.le_refl _

/-- What is no amount's text. -/
theorem end_bad {s A B : ByteArray} {f : Bool} (hc : cut1 s 46 = (A, B, f)) (h : ∀ t : Int, -9007199254740992 ≤ t → t ≤ 9007199254740992 → textM t = s → f = true → Lib.atoiAll (A ++ B).data.toList = .ok t → False) : ParseEnd s 0 1 := by
  refine Or.inr ⟨rfl, rfl, fun t h0 h1 e => ?_⟩
  obtain ⟨A', B', c, d⟩ := cut_text t
  rw [e, hc] at c
  simp only [Prod.mk.injEq] at c
  obtain ⟨rfl, rfl, rfl⟩ := c
  exact h t h0 h1 e rfl (by rw [d]; exact atoi_text t h0 h1)

set_option maxHeartbeats 4000000 in
set_option maxRecDepth 20000 in
theorem parse_any (z : World) (L : Laid z) (s : ByteArray) (hs : s.size ≤ 281474976710656) (w : World) (hz : Kept z w) : Calls Tryd.prog 20 #[.string s] w fun e w' =>
    ∃ n x, e = .returned (.tuple #[.int .i64 n, .int .i64 x]) ∧ ParseEnd s n x ∧ Kept z w' := by
  obtain ⟨⟨A, B, f⟩, hc⟩ : ∃ p, p = cut1 s 46 := ⟨_, rfl⟩
  have sz := cut_parts s 46
  rw [← hc] at sz
  have C := fun w (h : Kept z w) => (cut_any s 46 w (by omega)).mono fun e w' (hh : _ ∧ _) => (⟨hh.1, by obtain ⟨_, n, rfl⟩ := hh; exact h.drewN n⟩ : e = .returned (.tuple #[.string (cut1 s 46).1, .string (cut1 s 46).2.1, .bool (cut1 s 46).2.2]) ∧ Kept z w')
  rw [← hc] at C
  dsimp only at C sz
  have l0 := fun w => run_string_add_sum (P := Tryd.prog) w A B (by omega)
  obtain ⟨q, hq⟩ : ∃ q, q = A ++ B := ⟨_, rfl⟩
  have T := fun n h0 h1 w h => text_any z L n h0 h1 w h
  have I := fun w h => atoi_k z L q (by rw [hq, ByteArray.size_append]; omega) w h
  have R := fun n w h => right_k z w h n
  rw [← hq] at l0
  have HC := Lib.hid hc
  have HQ := Lib.hid hq
  clear hc hq L sz hs
  go_enter Tryd.func20, Tryd.ntmps20
  go_wp2_with fail
  refine (C _ hz).mono ?_
  rintro e w1 ⟨rfl, hz1⟩
  clear C
  go_wp2_with fail
  refine (I _ hz1).mono ?_
  rintro e w2 ⟨n, ev, rfl, hat, hz2⟩
  clear I hz hz1 l0
  cases f
  · have PE := Lib.hid (end_bad HC.out.symm (fun t _ _ _ hf _ => by cases hf))
    clear hat T R
    go_wp2_with fail
    go_ret2
    exact ⟨0, 1, rfl, PE.out, hz2⟩
  · rcases hat with ⟨rfl, hok⟩ | ⟨⟨te, pe, rfl⟩, hno⟩
    · have HOK := Lib.hid hok
      have R1 := R n _ hz2
      clear R hok
      by_cases hr : -9007199254740992 ≤ n ∧ n ≤ 9007199254740992
      · have T1 := fun w h => T n (by omega) (by omega) w h
        have hr' : rightS n = true := decide_eq_true hr
        rw [hr'] at R1
        have HR := Lib.hid hr
        clear hr hr' T
        obtain ⟨r, er⟩ : ∃ r, r = textM n := ⟨_, rfl⟩
        rw [← er] at T1
        have ER := Lib.hid er
        clear er
        go_wp2_with fail
        refine R1.mono ?_
        rintro e w3 ⟨rfl, hz3⟩
        go_wp2_with fail
        refine (T1 _ hz3).mono ?_
        rintro e w4 ⟨rfl, hz4⟩
        clear R1 T1
        by_cases he : r = s
        · have hb : (r.toList == s.toList) = true := (Lib.bytes_beq_iff _ _).2 he
          have PE := Lib.hid (show ParseEnd s n 0 from Or.inl ⟨rfl, HR.out.1, HR.out.2, by rw [← ER.out]; exact he⟩)
          clear he
          go_wp2_with fail
          go_ret2
          exact ⟨n, 0, rfl, PE.out, hz4⟩
        · have hb : (r.toList == s.toList) = false := (Lib.bytes_beq_false_iff _ _).2 he
          have PE := Lib.hid (end_bad HC.out.symm (fun t h0 h1 ht _ ha => he (by
            rw [← HQ.out, HOK.out] at ha
            have hnt : n = t := by simpa using ha
            rw [ER.out, hnt, ht])))
          clear he
          go_wp2_with fail
          go_ret2
          exact ⟨0, 1, rfl, PE.out, hz4⟩
      · have hr' : rightS n = false := decide_eq_false hr
        rw [hr'] at R1
        have PE := Lib.hid (end_bad HC.out.symm (fun t h0 h1 ht _ ha => hr (by
            rw [← HQ.out, HOK.out] at ha
            have hnt : n = t := by simpa using ha
            rw [hnt]; exact ⟨h0, h1⟩)))
        clear hr hr' T
        go_wp2_with fail
        refine R1.mono ?_
        rintro e w3 ⟨rfl, hz3⟩
        go_wp2_with fail
        go_ret2
        exact ⟨0, 1, rfl, PE.out, hz3⟩
    · have PE := Lib.hid (end_bad HC.out.symm (fun t h0 h1 ht _ ha => by
            rw [← HQ.out] at ha
            exact hno t ha))
      clear hno T R
      go_wp2_with fail
      go_ret2
      exact ⟨0, 1, rfl, PE.out, hz2⟩
end Go.Proofs.YtdioaclegmalpaaDoor.Hand
