/- The document's reading of an amount, walked; MoneyTexts, walked. -/
import Derived.Test.YtdioaclegmalpaaDoorHandT
import Derived.Test.YtdioaclegmalpaaDoorPureN
namespace Go.Proofs.YtdioaclegmalpaaDoor.Hand
open Go.RowKit Go.Sort Go.Lib Go.Proofs.YtdioaclegmalpaaDoorW.PrintWords Go.Proofs.YtdioaclegmalpaaDoor.XA

set_option maxHeartbeats 4000000 in
set_option maxRecDepth 20000 in
theorem rparse_any (s : ByteArray) (w : World) : Calls Tryd.prog 21 #[.string s] w fun e w' =>
    ∃ n x, e = .returned (.tuple #[.int .i64 n, .int .i64 x]) ∧ ParseEnd s n x ∧ w' = w := by
  by_cases h20 : (s.size : Int) > 20
  · have PE := Lib.hid (bad_long (s := s) (by omega))
    go_enter Tryd.func21, Tryd.ntmps21
    go_wp2_with fail
    go_ret2
    exact ⟨0, 1, rfl, PE.out, rfl⟩
  obtain ⟨L, hL⟩ : ∃ L, L = s.data.toList := ⟨_, rfl⟩
  have hLn : L.length = s.size := by rw [hL, Lib.size_eq]
  have hget : ∀ (i : Nat) (h : i < s.size), s[i] = L[i]'(by omega) := by
    intro i h
    subst hL
    rfl
  have HL := Lib.hid hL
  have HGET := Lib.hid hget
  have H20 := Lib.hid h20
  clear hL hget
  go_enter Tryd.func21, Tryd.ntmps21
  go_wp2_with fail
  go_loop [4, 5, 6] (fun vn vm vi => ∃ k : Nat, vi = .int .i64 k ∧ vn = .int .i64 (vdigs (L.take k)) ∧ vm = .bool (mns L k) ∧ k ≤ L.length ∧ Hid (vdigs (L.take k) ≤ 9007199254740992)) (fun _ _ vi => L.length - (RowKit.intOf vi).toNat)
  case atStart => exact ⟨0, rfl, rfl, rfl, by omega, Lib.hid (by show (0 : Nat) ≤ 9007199254740992; omega)⟩
  case round =>
    obtain ⟨k, rfl, rfl, rfl, hk, hv⟩ := hrel
    obtain ⟨nI, hn⟩ : ∃ nI : Int, nI = vdigs (L.take k) := ⟨_, rfl⟩
    obtain ⟨mb, hmb⟩ : ∃ mb, mb = mns L k := ⟨_, rfl⟩
    rw [← hn, ← hmb]
    have hn7 : 0 ≤ nI ∧ nI ≤ 9007199254740992 := by have := hv.out; omega
    have HN := Lib.hid hn
    have HM := Lib.hid hmb
    clear hn hmb
    by_cases hlt : k < s.size
    · have hkl : k < L.length := by omega
      obtain ⟨c, hc⟩ : ∃ c, c = L[k] := ⟨_, rfl⟩
      obtain ⟨cI, hcI⟩ : ∃ cI : Int, cI = c.toNat := ⟨_, rfl⟩
      have hgI : ((s[k]'hlt).toNat : Int) = cI := by rw [HGET.out k hlt, hcI, hc]
      have hc256 : 0 ≤ cI ∧ cI < 256 := by have := c.toNat_lt; omega
      have hst := vd_step L k hkl
      rw [← hc] at hst
      have HST := Lib.hid hst
      have HC := Lib.hid hc
      have HI := Lib.hid hcI
      have hw1 : IntKind.i64.wrap ((k : Int) + 1) = (k : Int) + 1 := by have := H20.out; rw [IntKind.wrap_i64]; omega
      clear hst hc hcI h20
      have hmk : 0 < k → mns L (k + 1) = mns L k := fun h => by unfold mns; rw [decide_eq_true (Nat.succ_pos k), decide_eq_true h]
      have same : ¬ (48 ≤ cI ∧ cI ≤ 57) → vdigs (L.take (k + 1)) = vdigs (L.take k) := fun h => by
        rw [HST.out]
        exact if_neg (by have := HI.out; omega)
      by_cases c45 : cI = 45
      · have t1 : (cI == 45) = true := by simpa using c45
        by_cases k0 : k = 0
        · subst k0
          have hm1 : mns L 1 = true := by
            unfold mns
            have e : L.head? = some 45 := by
              cases L with
              | nil => simp at hkl
              | cons x r =>
                have h1 := HC.out
                have h2 := HI.out
                simp only [List.getElem_cons_zero] at h1
                rw [← h1, List.head?_cons]
                congr 1
                apply UInt8.toNat_inj.1
                show c.toNat = 45
                omega
            rw [e]
            rfl
          have hs := same (by omega)
          have HR := Lib.hid (show Value.int IntKind.i64 nI = .int .i64 ((vdigs (L.take 1) : Nat) : Int) by rw [hs, ← HN.out])
          have HB := Lib.hid (show vdigs (L.take 1) ≤ 9007199254740992 by rw [hs]; exact hv.out)
          have HM1 := Lib.hid hm1
          clear same hmk hs c45 hm1
          go_wp2_with fail
          exact ⟨⟨1, rfl, HR.out, by rw [HM1.out], by omega, HB⟩, by simp [RowKit.intOf]; omega⟩
        · have k1 : ((k : Int) == 0) = false := by simpa using k0
          have PE := Lib.hid (bad_char HL.out hkl (by rw [← HC.out]; have := HI.out; omega) (by rw [← HC.out]; have := HI.out; omega) (fun _ => k0))
          have t2 : ¬ 48 ≤ cI := by omega
          have t3 : (cI != 46) = true := by simp; omega
          clear same hmk c45
          go_wp2_with fail
          go_ret2
          exact ⟨0, 1, rfl, PE.out, rfl⟩
      · have t1 : (cI == 45) = false := by simpa using c45
        have hm1 := Lib.hid (show mns L (k + 1) = mb by
          rw [HM.out]
          by_cases k0 : k = 0
          · subst k0
            unfold mns
            have e : (L.head? == some 45) = false := by
              cases L with
              | nil => simp at hkl
              | cons x r =>
                have h1 := HC.out
                have h2 := HI.out
                simp only [List.getElem_cons_zero] at h1
                rw [← h1, List.head?_cons, beq_eq_false_iff_ne]
                intro h
                have h3 : c = 45 := by simpa using h
                rw [h3] at h2
                exact c45 h2
            rw [e, Bool.and_false, Bool.and_false]
          · exact hmk (by omega))
        by_cases g1 : 48 ≤ cI
        · by_cases g2 : cI ≤ 57
          · obtain ⟨m1, e1⟩ : ∃ m1, m1 = nI * 10 := ⟨_, rfl⟩
            obtain ⟨m2, e2⟩ : ∃ m2, m2 = m1 + cI := ⟨_, rfl⟩
            obtain ⟨m3, e3⟩ : ∃ m3, m3 = m2 - 48 := ⟨_, rfl⟩
            have p1 : IntKind.i64.wrap (nI * 10) = m1 := by rw [IntKind.wrap_i64]; omega
            have p2 : IntKind.i64.wrap (m1 + cI) = m2 := by rw [IntKind.wrap_i64]; omega
            have p3 : IntKind.i64.wrap (m2 - 48) = m3 := by rw [IntKind.wrap_i64]; omega
            have p4 : IntKind.i64.wrap cI = cI := by rw [IntKind.wrap_i64]; omega
            have hm3 : m3 = (vdigs (L.take (k + 1)) : Nat) := by
              rw [HST.out]
              have h1 := HI.out
              have h2 := HN.out
              rw [show stepV (vdigs (L.take k)) c = vdigs (L.take k) * 10 + (c.toNat - 48) from if_pos (by omega)]
              omega
            have HM3 := Lib.hid hm3
            clear e1 e2 e3 hm3 same hmk c45 hn7 hc256
            by_cases ho : 9007199254740992 < m3
            · have PE := Lib.hid (bad_over HL.out (k := k + 1) (by have := HM3.out; omega))
              go_wp2_with fail
              go_ret2
              exact ⟨0, 1, rfl, PE.out, rfl⟩
            · have HB := Lib.hid (show vdigs (L.take (k + 1)) ≤ 9007199254740992 by have := HM3.out; omega)
              go_wp2_with fail
              exact ⟨⟨k + 1, by congr 1, by rw [HM3.out], by rw [hm1.out], by omega, HB⟩, by simp [RowKit.intOf]; omega⟩
          · have t3 : (cI != 46) = true := by simp; omega
            have PE := Lib.hid (bad_char HL.out hkl (by rw [← HC.out]; have := HI.out; omega) (by rw [← HC.out]; have := HI.out; omega) (fun h => by rw [← HC.out] at h; have := HI.out; omega))
            clear same hmk c45
            go_wp2_with fail
            go_ret2
            exact ⟨0, 1, rfl, PE.out, rfl⟩
        · by_cases c46 : cI = 46
          · have t3 : (cI != 46) = false := by simpa using c46
            have hs := same (by omega)
            have HR := Lib.hid (show nI = ((vdigs (L.take (k + 1)) : Nat) : Int) by rw [hs, ← HN.out])
            have HB := Lib.hid (show vdigs (L.take (k + 1)) ≤ 9007199254740992 by rw [hs]; exact hv.out)
            clear same hmk c45 c46 hs
            go_wp2_with fail
            exact ⟨⟨k + 1, by congr 1, by rw [← HR.out], by rw [hm1.out], by omega, HB⟩, by simp [RowKit.intOf]; omega⟩
          · have t3 : (cI != 46) = true := by simpa using c46
            have PE := Lib.hid (bad_char HL.out hkl (by rw [← HC.out]; have := HI.out; omega) (by rw [← HC.out]; have := HI.out; omega) (fun h => by rw [← HC.out] at h; have := HI.out; omega))
            clear same hmk c45 c46
            go_wp2_with fail
            go_ret2
            exact ⟨0, 1, rfl, PE.out, rfl⟩
    · have hkk : k = L.length := by omega
      have hend := fun (m : Int) (hm : m = if mns L L.length then -(vdigs L : Int) else vdigs L) (hs : ¬ textM m = s) => end_text HL.out hm hs
      have hnn : nI = (vdigs L : Nat) := by have := HN.out; rw [hkk, List.take_length] at this; exact this
      have hmm : mb = mns L L.length := by have := HM.out; rw [hkk] at this; exact this
      rw [← hmm, ← hnn] at hend
      obtain ⟨m, hm⟩ : ∃ m : Int, m = if mb then -nI else nI := ⟨_, rfl⟩
      have T := fun w => rtext_any m (by rw [hm]; split <;> omega) (by rw [hm]; split <;> omega) w
      have hE := fun hs => hend m hm hs
      have hR : -9007199254740992 ≤ m ∧ m ≤ 9007199254740992 := by rw [hm]; split <;> omega
      obtain ⟨r, er⟩ : ∃ r, r = textM m := ⟨_, rfl⟩
      rw [← er] at T hE
      have HE := Lib.hid hE
      have HR := Lib.hid hR
      have ER := Lib.hid er
      have hneg : mb = true → IntKind.i64.wrap (-nI) = m := fun h => by rw [hm, h, if_pos rfl, IntKind.wrap_i64]; omega
      have hpos : mb = false → nI = m := fun h => by rw [hm, h, if_neg (by decide)]
      clear hend hnn hmm hm hE hR er HN HM hn7 HGET hLn
      by_cases he : r = s
      · have hb : (r.toList == s.toList) = true := (Lib.bytes_beq_iff _ _).2 he
        have PE := Lib.hid (show ParseEnd s m 0 from Or.inl ⟨rfl, HR.out.1, HR.out.2, by rw [← ER.out]; exact he⟩)
        clear he
        cases mb
        · obtain rfl := hpos rfl
          clear hneg hpos
          go_wp2_with fail
          refine (T _).mono ?_
          rintro e w1 ⟨rfl, rfl⟩
          go_wp2_with fail
          go_ret2
          exact ⟨_, 0, rfl, PE.out, rfl⟩
        · have p1 := hneg rfl
          clear hneg hpos
          go_wp2_with fail
          refine (T _).mono ?_
          rintro e w1 ⟨rfl, rfl⟩
          go_wp2_with fail
          go_ret2
          exact ⟨_, 0, rfl, PE.out, rfl⟩
      · have hb : (r.toList == s.toList) = false := (Lib.bytes_beq_false_iff _ _).2 he
        have PE := Lib.hid (HE.out he)
        clear he
        cases mb
        · obtain rfl := hpos rfl
          clear hneg hpos
          go_wp2_with fail
          refine (T _).mono ?_
          rintro e w1 ⟨rfl, rfl⟩
          go_wp2_with fail
          go_ret2
          exact ⟨0, 1, rfl, PE.out, rfl⟩
        · have p1 := hneg rfl
          clear hneg hpos
          go_wp2_with fail
          refine (T _).mono ?_
          rintro e w1 ⟨rfl, rfl⟩
          go_wp2_with fail
          go_ret2
          exact ⟨0, 1, rfl, PE.out, rfl⟩

set_option maxHeartbeats 2000000 in
set_option maxRecDepth 20000 in
theorem texts_any (n : Int) (hn : -9223372036854775808 ≤ n ∧ n ≤ 9223372036854775807) (s : ByteArray) (hs : s.size ≤ 281474976710656) (w : World) (L : Laid w) : Calls Tryd.prog 6 #[.int .i64 n, .string s] w fun e w' => e = .returned (.bool true) ∧ Kept w w' := by
  obtain ⟨z, hzw⟩ : ∃ z, z = w := ⟨_, rfl⟩
  have hz : Kept z w := by rw [hzw]; exact Kept.refl _
  suffices H : Calls Tryd.prog 6 #[.int .i64 n, .string s] w fun e w' => e = .returned (.bool true) ∧ Kept z w' by rw [hzw] at H; exact H
  rw [← hzw] at L
  clear hzw
  have A := fun w h => awake_any z L w h
  have T := fun w h => text_any z L n hn.1 hn.2 w h
  have RT := fun w => rtext_any n hn.1 hn.2 w
  have PS := fun w h => parse_any z L s hs w h
  have RP := fun w => rparse_any s w
  generalize textM n = r at T RT
  clear L hs hn
  go_enter Tryd.func6, Tryd.ntmps6
  go_wp2_with fail
  refine (A _ hz).mono ?_
  rintro e w1 ⟨rfl, hz1⟩
  go_wp2_with fail
  refine (T _ hz1).mono ?_
  rintro e w2 ⟨rfl, hz2⟩
  go_wp2_with fail
  refine (PS _ hz2).mono ?_
  rintro e w3 ⟨a, x, rfl, hp, hz3⟩
  have HP := Lib.hid hp
  clear hp
  go_wp2_with fail
  refine (RP _).mono ?_
  rintro e w4 ⟨b, f, rfl, hq, rfl⟩
  obtain ⟨rfl, rfl⟩ := hq.alike HP.out
  clear HP hq
  go_wp2_with fail
  refine (RT _).mono ?_
  rintro e w5 ⟨rfl, rfl⟩
  go_wp2_with fail
  go_ret
  exact ⟨by simp, hz3⟩
end Go.Proofs.YtdioaclegmalpaaDoor.Hand
