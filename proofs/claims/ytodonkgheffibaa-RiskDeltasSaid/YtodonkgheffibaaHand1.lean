/- The contracts of risk.tokens and what it calls (slices.ContainsFunc, slices.IndexFunc at the closure of risk.tokens), by hand: does a list hold only texts of eight bytes? -/
import Derived.Test.YtodonkgheffibaaXAx
import Derived.WalkLawsBesides

namespace Go.Proofs.Ytodonkgheffibaa.Hand
open Go.RowKit Go.Proofs.YtodonkgheffibaaW.PrintWords Go.Proofs.YtodonkgheffibaaW.PrintLast Go.Proofs.YtodonkgheffibaaW.PrintMore

theorem hid_ {p : Prop} (h : p) : Hid p := h

def tokB (s : ByteArray) : Bool := decide (s.size = 8)
def toksB (l : List ByteArray) : Bool := l.all tokB

theorem token_any (s : ByteArray) (w : World) : Calls Try.prog 11 #[.string s] w fun e w' => e = .returned (.bool (tokB s)) ∧ w = w' := by
  by_cases h : s.size = 8
  · have hb : ((s.size : Int) == 8) = true := by rw [beq_iff_eq]; omega
    have hr : tokB s = true := by simp [tokB, h]
    rw [hr]; clear hr h
    go_enter Try.func11, Try.ntmps11
    go_wp2
    go_ret
    exact ⟨rfl, rfl⟩
  · have hb : ((s.size : Int) == 8) = false := by rw [beq_eq_false_iff_ne]; omega
    have hr : tokB s = false := by simp [tokB, h]
    rw [hr]; clear hr h
    go_enter Try.func11, Try.ntmps11
    go_wp2
    go_ret
    exact ⟨rfl, rfl⟩

theorem clos_any (s : ByteArray) (w : World) : Calls Try.prog 39 #[.string s] w fun e w' => e = .returned (.bool (!tokB s)) ∧ w = w' := by
  go_enter Try.func39, Try.ntmps39
  go_wp2_with (go_at_call 11; refine (token_any _ _).mono ?_; rintro e w' ⟨rfl, rfl⟩)
  go_ret
  exact ⟨rfl, rfl⟩

/-- Is there a text of another length? -/
def IdxPost (l : List ByteArray) (w : World) (e : Ending) (w' : World) : Prop := ∃ i : Int, e = .returned (.int .i64 i) ∧ (decide (0 ≤ i) = !toksB l) ∧ w = w'
theorem toks_no {l : List ByteArray} {k : Nat} (hk : k < l.length) (h : tokB (rdOf ByteArray.empty l (k : Int)) = false) : toksB l = false := by
  unfold toksB
  rw [List.all_eq_false]
  refine ⟨l[k], List.getElem_mem _, ?_⟩
  have : rdOf ByteArray.empty l (k : Int) = l[k] := by simp [rdOf, List.getD_eq_getElem?_getD, hk]
  rw [this] at h
  simp [h]
theorem toks_step {l : List ByteArray} {k : Nat} (hk : k < l.length) (ha : (l.take k).all tokB = true) (h : tokB (rdOf ByteArray.empty l (k : Int)) = true) : (l.take (k + 1)).all tokB = true := by
  have : rdOf ByteArray.empty l (k : Int) = l[k] := by simp [rdOf, List.getD_eq_getElem?_getD, hk]
  rw [this] at h
  rw [List.take_succ_eq_append_getElem hk, List.all_append, ha]
  simp [h]
set_option maxHeartbeats 1000000 in
theorem indexfunc_any (A : Option Addr) (c : Nat) (l : List ByteArray) (w : World) (hr : Kd.C Kd.string w A l.length l) :
    Calls Try.prog 47 #[.slice A l.length c, .func (.func 39) #[] #[]] w (IdxPost l w) := by
  have hn : l.length ≤ 9223372036854775807 := hr.2.1
  go_enter Try.func47, Try.ntmps47
  go_wp2
  go_loop [5, 8] (fun _ i => ∃ k : Nat, k ≤ l.length ∧ i = .int .i64 k ∧ (l.take k).all tokB = true) (fun _ i => l.length - (intOf i).toNat)
  case atStart => exact ⟨0, Nat.zero_le _, rfl, rfl⟩
  case round =>
    obtain ⟨k, hk, rfl, hall⟩ := hrel
    have H := hid_ hall
    clear hall
    by_cases hlt : k < l.length
    · obtain ⟨ad, e0, hx⟩ := Kd.at_string hr (k : Int) (by omega) (by omega)
      subst e0
      rw [Int.toNat_natCast] at hx
      cases hb : tokB (rdOf ByteArray.empty l (k : Int))
      · have HB := hid_ hb
        go_wp2_with (go_at_call 39; refine (clos_any _ _).mono ?_; rw [hb]; clear hb; rintro e w' ⟨rfl, rfl⟩)
        go_ret
        exact ⟨k, rfl, by rw [toks_no hlt HB.out]; simp, rfl⟩
      · have HB := hid_ hb
        go_wp2_with (go_at_call 39; refine (clos_any _ _).mono ?_; rw [hb]; clear hb; rintro e w' ⟨rfl, rfl⟩)
        go_round
        case rel => exact ⟨k + 1, by omega, by go_num, toks_step hlt H.out HB.out⟩
        case measure => simp [intOf]; omega
    · go_wp2
      go_ret
      exact ⟨-1, rfl, by have : k = l.length := by omega
                         subst this
                         have hh := H.out
                         rw [List.take_length] at hh
                         simp [toksB, hh], rfl⟩

theorem containsfunc_any (A : Option Addr) (c : Nat) (l : List ByteArray) (w : World) (hr : Kd.C Kd.string w A l.length l) :
    Calls Try.prog 38 #[.slice A l.length c, .func (.func 39) #[] #[]] w fun e w' => e = .returned (.bool (!toksB l)) ∧ w = w' := by
  go_enter Try.func38, Try.ntmps38
  go_wp2_with (go_at_call 47; refine (indexfunc_any _ _ _ _ hr).mono ?_; rintro e w' ⟨i, rfl, hi, rfl⟩; clear hr)
  go_ret
  exact ⟨by rw [← hi]; rfl, rfl⟩

theorem tokens_any (A : Option Addr) (c : Nat) (l : List ByteArray) (w : World) (hr : Kd.C Kd.string w A l.length l) :
    Calls Try.prog 27 #[.slice A l.length c] w fun e w' => e = .returned (.bool (toksB l)) ∧ w = w' := by
  go_enter Try.func27, Try.ntmps27
  go_wp2_with (go_at_call 38; refine (containsfunc_any _ _ _ _ hr).mono ?_; rintro e w' ⟨rfl, rfl⟩; clear hr)
  go_ret
  exact ⟨rfl, rfl⟩
end Go.Proofs.Ytodonkgheffibaa.Hand
