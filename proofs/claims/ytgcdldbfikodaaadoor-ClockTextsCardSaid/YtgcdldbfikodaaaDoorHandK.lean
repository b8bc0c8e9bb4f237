/- The document's reading of a time, walked; ClockTexts, walked. -/
import Derived.Test.YtgcdldbfikodaaaDoorHandJ
import Derived.Test.YtgcdldbfikodaaaDoorPureK
namespace Go.Proofs.YtgcdldbfikodaaaDoor.Hand
open Go.RowKit Go.Sort Go.Lib Go.Proofs.YtgcdldbfikodaaaDoorW.PrintWords Go.Proofs.YtgcdldbfikodaaaDoor.XA

theorem read_no {s : ByteArray} {L : List UInt8} {k : Nat} (hL : L = s.data.toList) (ST : Stop L k) (h : ¬ s.size = k + 10) : ParseEnd s 0 1 := by
  refine end_bad fun t ht e => h ?_
  subst e hL
  rw [Lib.size_eq]
  exact (text_read t ht k ST).1
theorem read_at {s : ByteArray} {L : List UInt8} {k : Nat} (hL : L = s.data.toList) (ST : Stop L k) (t : Nat) (ht : t ≤ 2147483648) (e : textB t = s) : (t : Int) = val (L.take k) * 10080 + (t % 10080 / 1440 : Nat) * 1440 + pair L (k + 5) * 60 + pair L (k + 8) := by
  subst e hL
  obtain ⟨-, h1, h2, h3⟩ := text_read t ht k ST
  rw [h1, h2, h3]
  omega
theorem read_yes {s : ByteArray} {t : Int} (hs : 10 ≤ s.size) (e : textI t = s) : ParseEnd s t 0 := by
  by_cases h : 0 ≤ t ∧ t ≤ 2147483648
  · exact Or.inl ⟨rfl, h.1, h.2, e⟩
  · rw [textI, if_neg h] at e
    subst e
    exact absurd hs (by decide)

theorem rest_byte (s : ByteArray) (L : List UInt8) (hL : L = s.data.toList) (k j : Nat) (R : ByteArray) (hR : R = s.extract k s.size) (h : j < R.size) : R[j]'h = L.getD (k + j) 0 := by
  subst hR hL
  have h' : k + j < s.size := by rw [ByteArray.size_extract] at h; omega
  rw [ByteArray.getElem_extract, List.getD_eq_getElem?_getD, List.getElem?_eq_getElem (by rw [← Lib.size_eq]; exact h')]
  rfl
theorem rest_size (s : ByteArray) (k : Nat) (h : s.size = k + 10) : (s.extract k s.size).size = 10 := by rw [ByteArray.size_extract]; omega

set_option maxHeartbeats 4000000 in
set_option maxRecDepth 20000 in
theorem rparse_any (z : World) (s : ByteArray) (hs : s.size ≤ 281474976710656) (w : World) (hz : Kept z w) : Calls Tryd.prog 12 #[.string s] w fun e w' =>
    ∃ n x, e = .returned (.tuple #[.int .i64 n, .int .i64 x]) ∧ ParseEnd s n x ∧ Kept z w' := by
  have T := fun t w h => rtext_any t w z h
  obtain ⟨L, hL⟩ : ∃ L, L = s.data.toList := ⟨_, rfl⟩
  have hLn : L.length = s.size := by rw [hL, Lib.size_eq]
  have hget : ∀ (i : Nat) (h : i < s.size), s[i]'h = L[i]'(by omega) := by
    intro i h
    subst hL
    rfl
  have HL := Lib.hid hL
  have HT := Lib.hid T
  clear T hL
  have mx := mixed
  go_enter Tryd.func12, Tryd.ntmps12
  go_wp2_with fail
  go_loop [4, 5] (fun vn vi => ∃ k : Nat, vi = .int .i64 k ∧ vn = .int .i64 (val (L.take k)) ∧ k ≤ L.length ∧ k ≤ 7 ∧ Hid (∀ c ∈ L.take k, Dig c)) (fun _ vi => 7 - (RowKit.intOf vi).toNat)
  case atStart => exact ⟨0, rfl, rfl, by omega, by omega, Lib.hid (by simp)⟩
  case round =>
    obtain ⟨k, rfl, rfl, hk, hk7, hd⟩ := hrel
    obtain ⟨nI, hn⟩ : ∃ nI : Int, nI = val (L.take k) := ⟨_, rfl⟩
    rw [← hn]
    have hn7 : 0 ≤ nI ∧ nI < 10000000 := by
      have h1 := val_lt k (L.take k) (by rw [List.length_take]; omega) hd.out
      have h2 : 10 ^ k ≤ 10 ^ 7 := Nat.pow_le_pow_right (by decide) hk7
      omega
    by_cases hlt : k < s.size
    · have hg := hget k hlt
      have hkl : k < L.length := by omega
      have htk : L.take (k + 1) = L.take k ++ [L[k]] := by rw [List.take_add_one, List.getElem?_eq_getElem hkl]; rfl
      obtain ⟨c, hc⟩ : ∃ c, c = L[k] := ⟨_, rfl⟩
      obtain ⟨cI, hcI⟩ : ∃ cI : Int, cI = c.toNat := ⟨_, rfl⟩
      have hgI : ((s[k]'hlt).toNat : Int) = cI := by rw [hg, hcI, hc]
      have hc256 : 0 ≤ cI ∧ cI < 256 := by have := c.toNat_lt; omega
      have HG := Lib.hid hg
      clear hg
      by_cases g1 : 48 ≤ cI
      · by_cases g2 : cI ≤ 57
        · by_cases g3 : (k : Int) < 7
          · obtain ⟨m1, e1⟩ : ∃ m1, m1 = nI * 10 := ⟨_, rfl⟩
            obtain ⟨m2, e2⟩ : ∃ m2, m2 = m1 + cI := ⟨_, rfl⟩
            obtain ⟨m3, e3⟩ : ∃ m3, m3 = m2 - 48 := ⟨_, rfl⟩
            have p1 : IntKind.i64.wrap (nI * 10) = m1 := by rw [IntKind.wrap_i64]; omega
            have p2 : IntKind.i64.wrap (m1 + cI) = m2 := by rw [IntKind.wrap_i64]; omega
            have p3 : IntKind.i64.wrap (m2 - 48) = m3 := by rw [IntKind.wrap_i64]; omega
            have p4 : IntKind.i64.wrap cI = cI := by rw [IntKind.wrap_i64]; omega
            have hm : m3 = (val (L.take (k + 1)) : Nat) := by rw [htk, val_app, ← hc]; omega
            have HM := Lib.hid hm
            have hD : ∀ x ∈ L.take (k + 1), Dig x := by
              rw [htk]
              intro x hx
              rcases List.mem_append.1 hx with h | h
              · exact hd.out x h
              · rw [List.mem_singleton] at h
                rw [h, ← hc]
                unfold Dig
                omega
            have HD := Lib.hid hD
            have HH := Lib.hid hn
            clear hn hc hcI e1 e2 e3 hm hD htk hget hn7 hc256
            go_wp2_with fail
            exact ⟨⟨k + 1, by congr 1, by rw [HM.out], by omega, by omega, HD⟩, by simp [RowKit.intOf]; omega⟩
          · have HC := Lib.hid hc
            have HI := Lib.hid hcI
            have HH := Lib.hid hn
            clear hc hcI hn hget htk hc256

            by_cases hsz : s.size = k + 10
            · have ST : Hid (Stop L k) := Lib.hid ⟨hk, hk7, hd.out, Or.inr (Or.inr (by omega))⟩
              have hq : ((s.size : Int) != (k : Int) + 10) = false := by simp; omega
              have HS := Lib.hid hsz
              clear hsz hd hk7
              go_wp2_with fail
              obtain ⟨R, hR⟩ : ∃ R, R = s.extract k s.size := ⟨_, rfl⟩
              have hR10 : R.size = 10 := by rw [hR]; exact rest_size s k HS.out
              rw [← hR]
              have HR := Lib.hid hR
              clear hR
              obtain ⟨y5, e5⟩ : ∃ y : Int, y = ((L.getD (k + 5) 0).toNat : Int) := ⟨_, rfl⟩
              obtain ⟨y6, e6⟩ : ∃ y : Int, y = ((L.getD (k + 6) 0).toNat : Int) := ⟨_, rfl⟩
              obtain ⟨y8, e8⟩ : ∃ y : Int, y = ((L.getD (k + 8) 0).toNat : Int) := ⟨_, rfl⟩
              obtain ⟨y9, e9⟩ : ∃ y : Int, y = ((L.getD (k + 9) 0).toNat : Int) := ⟨_, rfl⟩
              have z5 : ((R[5]'(by omega)).toNat : Int) = y5 := by rw [rest_byte s L HL.out k 5 R HR.out (by omega), e5]
              have z6 : ((R[6]'(by omega)).toNat : Int) = y6 := by rw [rest_byte s L HL.out k 6 R HR.out (by omega), e6]
              have z8 : ((R[8]'(by omega)).toNat : Int) = y8 := by rw [rest_byte s L HL.out k 8 R HR.out (by omega), e8]
              have z9 : ((R[9]'(by omega)).toNat : Int) = y9 := by rw [rest_byte s L HL.out k 9 R HR.out (by omega), e9]
              have b5 : 0 ≤ y5 ∧ y5 < 256 := by have := (L.getD (k + 5) 0).toNat_lt; omega
              have b6 : 0 ≤ y6 ∧ y6 < 256 := by have := (L.getD (k + 6) 0).toNat_lt; omega
              have b8 : 0 ≤ y8 ∧ y8 < 256 := by have := (L.getD (k + 8) 0).toNat_lt; omega
              have b9 : 0 ≤ y9 ∧ y9 < 256 := by have := (L.getD (k + 9) 0).toNat_lt; omega
              obtain ⟨hh, eh⟩ : ∃ y : Int, y = pair L (k + 5) := ⟨_, rfl⟩
              obtain ⟨mm, em⟩ : ∃ y : Int, y = pair L (k + 8) := ⟨_, rfl⟩
              have eh' : hh = (y5 - 48) * 10 + y6 - 48 := by rw [eh, e5, e6]; rfl
              have em' : mm = (y8 - 48) * 10 + y9 - 48 := by rw [em, e8, e9]; rfl
              obtain ⟨a1, d1⟩ : ∃ a, a = y5 - 48 := ⟨_, rfl⟩
              obtain ⟨a2, d2⟩ : ∃ a, a = a1 * 10 := ⟨_, rfl⟩
              obtain ⟨a3, d3⟩ : ∃ a, a = a2 + y6 := ⟨_, rfl⟩
              obtain ⟨c1, f1⟩ : ∃ a, a = y8 - 48 := ⟨_, rfl⟩
              obtain ⟨c2, f2⟩ : ∃ a, a = c1 * 10 := ⟨_, rfl⟩
              obtain ⟨c3, f3⟩ : ∃ a, a = c2 + y9 := ⟨_, rfl⟩
              have p1 : IntKind.i64.wrap y5 = y5 := by rw [IntKind.wrap_i64]; omega
              have p2 : IntKind.i64.wrap (y5 - 48) = a1 := by rw [IntKind.wrap_i64]; omega
              have p3 : IntKind.i64.wrap (a1 * 10) = a2 := by rw [IntKind.wrap_i64]; omega
              have p4 : IntKind.i64.wrap y6 = y6 := by rw [IntKind.wrap_i64]; omega
              have p5 : IntKind.i64.wrap (a2 + y6) = a3 := by rw [IntKind.wrap_i64]; omega
              have p6 : IntKind.i64.wrap (a3 - 48) = hh := by rw [IntKind.wrap_i64]; omega
              have r1 : IntKind.i64.wrap y8 = y8 := by rw [IntKind.wrap_i64]; omega
              have r2 : IntKind.i64.wrap (y8 - 48) = c1 := by rw [IntKind.wrap_i64]; omega
              have r3 : IntKind.i64.wrap (c1 * 10) = c2 := by rw [IntKind.wrap_i64]; omega
              have r4 : IntKind.i64.wrap y9 = y9 := by rw [IntKind.wrap_i64]; omega
              have r5 : IntKind.i64.wrap (c2 + y9) = c3 := by rw [IntKind.wrap_i64]; omega
              have r6 : IntKind.i64.wrap (c3 - 48) = mm := by rw [IntKind.wrap_i64]; omega
              have bh : -528 ≤ hh ∧ hh ≤ 2300 := by omega
              have bm : -528 ≤ mm ∧ mm ≤ 2300 := by omega
              have EH := Lib.hid eh
              have EM := Lib.hid em
              clear eh em eh' em' e5 e6 e8 e9 d1 d2 d3 f1 f2 f3 b5 b6 b8 b9
              have mx := mixed
              go_quiet (fail)
              have hz1 := hz.drewN nq
              generalize w.drewN nq = w1 at hz1 ⊢
              clear z5 z6 p1 p2 p3 p4 p5 p6
              go_wp2_with fail
              go_quiet (fail)
              have hz2 := hz1.drewN nq
              generalize w1.drewN nq = w2 at hz2 ⊢
              clear z8 z9 r1 r2 r3 r4 r5 r6 hR10
              go_wp2_with fail
              go_loopw [9] (fun vi wr => ∃ d : Nat, vi = .int .i64 d ∧ d ≤ 7 ∧ Hid (∀ e : Nat, e < d → textI (nI * 10080 + e * 1440 + hh * 60 + mm) ≠ s) ∧ Kept z wr) (fun vi _ => 7 - (RowKit.intOf vi).toNat)
              case atStart => exact ⟨0, rfl, by omega, Lib.hid (by intro e he; omega), hz2⟩
              case round =>
                obtain ⟨d, rfl, hd7, hno, hzr⟩ := hrel
                by_cases hd : (d : Int) < 7
                · obtain ⟨s1, e1⟩ : ∃ a, a = nI * 10080 := ⟨_, rfl⟩
                  obtain ⟨s2, e2⟩ : ∃ a, a = (d : Int) * 1440 := ⟨_, rfl⟩
                  obtain ⟨s3, e3⟩ : ∃ a, a = s1 + s2 := ⟨_, rfl⟩
                  obtain ⟨s4, e4⟩ : ∃ a, a = hh * 60 := ⟨_, rfl⟩
                  obtain ⟨s5, e5⟩ : ∃ a, a = s3 + s4 := ⟨_, rfl⟩
                  obtain ⟨s6, e6⟩ : ∃ a, a = s5 + mm := ⟨_, rfl⟩
                  have p1 : IntKind.i64.wrap (nI * 10080) = s1 := by rw [IntKind.wrap_i64]; omega
                  have p2 : IntKind.i64.wrap ((d : Int) * 1440) = s2 := by rw [IntKind.wrap_i64]; omega
                  have p3 : IntKind.i64.wrap (s1 + s2) = s3 := by rw [IntKind.wrap_i64]; omega
                  have p4 : IntKind.i64.wrap (hh * 60) = s4 := by rw [IntKind.wrap_i64]; omega
                  have p5 : IntKind.i64.wrap (s3 + s4) = s5 := by rw [IntKind.wrap_i64]; omega
                  have p6 : IntKind.i64.wrap (s5 + mm) = s6 := by rw [IntKind.wrap_i64]; omega
                  have e7 := Lib.hid (show s6 = nI * 10080 + d * 1440 + hh * 60 + mm by omega)
                  have T6 := fun w h => HT.out s6 w h
                  obtain ⟨r, er⟩ : ∃ r, r = textI s6 := ⟨_, rfl⟩
                  rw [← er] at T6
                  have ER := Lib.hid er
                  clear e1 e2 e3 e4 e5 e6 er hn7 bh bm
                  go_wp2_with fail
                  refine (T6 _ hzr).mono ?_
                  rintro e w4 ⟨rfl, hz4⟩
                  clear p1 p2 p3 p4 p5 p6 T6
                  by_cases he : r = s
                  · have hb : (r.toList == s.toList) = true := (Lib.bytes_beq_iff _ _).2 he
                    have HE := Lib.hid he
                    clear he
                    go_wp2_with fail
                    go_ret2
                    exact ⟨s6, 0, rfl, read_yes (by have := HS.out; omega) (by rw [← ER.out]; exact HE.out), hz4⟩
                  · have hb : (r.toList == s.toList) = false := (Lib.bytes_beq_false_iff _ _).2 he
                    have HE := Lib.hid he
                    clear he
                    go_wp2_with fail
                    refine ⟨⟨d + 1, by congr 1, by omega, Lib.hid ?_, hz4⟩, by simp [RowKit.intOf]; omega⟩
                    intro e he
                    by_cases h : e = d
                    · rw [h, ← e7.out, ← ER.out]
                      exact HE.out
                    · exact hno.out e (by omega)
                · have PE : ParseEnd s 0 1 := end_bad fun t ht e => hno.out (t % 10080 / 1440) (by omega) (by
                    have := read_at HL.out ST.out t ht e
                    rw [← HH.out, ← EH.out, ← EM.out] at this
                    rw [← this, textI_of (by omega) (by omega), Int.toNat_natCast]
                    exact e)
                  have HP := Lib.hid PE
                  clear PE hn7 bh bm
                  go_wp2_with fail
                  go_ret2
                  exact ⟨0, 1, rfl, HP.out, hzr⟩
            · have PE := read_no HL.out ⟨hk, hk7, hd.out, Or.inr (Or.inr (by omega))⟩ hsz
              have hq : ((s.size : Int) != (k : Int) + 10) = true := by simp; omega
              have HP := Lib.hid PE
              clear hsz hd PE hk7 hn7
              go_wp2_with fail
              go_ret2
              exact ⟨0, 1, rfl, HP.out, hz⟩
        · have HC := Lib.hid hc
          have HI := Lib.hid hcI
          have HH := Lib.hid hn
          clear hc hcI hn hget htk hc256

          by_cases hsz : s.size = k + 10
          · have ST : Hid (Stop L k) := Lib.hid ⟨hk, hk7, hd.out, Or.inr (Or.inl ⟨hkl, by rw [← HC.out]; unfold Dig; have := HI.out; omega⟩)⟩
            have hq : ((s.size : Int) != (k : Int) + 10) = false := by simp; omega
            have HS := Lib.hid hsz
            clear hsz hd hk7
            go_wp2_with fail
            obtain ⟨R, hR⟩ : ∃ R, R = s.extract k s.size := ⟨_, rfl⟩
            have hR10 : R.size = 10 := by rw [hR]; exact rest_size s k HS.out
            rw [← hR]
            have HR := Lib.hid hR
            clear hR
            obtain ⟨y5, e5⟩ : ∃ y : Int, y = ((L.getD (k + 5) 0).toNat : Int) := ⟨_, rfl⟩
            obtain ⟨y6, e6⟩ : ∃ y : Int, y = ((L.getD (k + 6) 0).toNat : Int) := ⟨_, rfl⟩
            obtain ⟨y8, e8⟩ : ∃ y : Int, y = ((L.getD (k + 8) 0).toNat : Int) := ⟨_, rfl⟩
            obtain ⟨y9, e9⟩ : ∃ y : Int, y = ((L.getD (k + 9) 0).toNat : Int) := ⟨_, rfl⟩
            have z5 : ((R[5]'(by omega)).toNat : Int) = y5 := by rw [rest_byte s L HL.out k 5 R HR.out (by omega), e5]
            have z6 : ((R[6]'(by omega)).toNat : Int) = y6 := by rw [rest_byte s L HL.out k 6 R HR.out (by omega), e6]
            have z8 : ((R[8]'(by omega)).toNat : Int) = y8 := by rw [rest_byte s L HL.out k 8 R HR.out (by omega), e8]
            have z9 : ((R[9]'(by omega)).toNat : Int) = y9 := by rw [rest_byte s L HL.out k 9 R HR.out (by omega), e9]
            have b5 : 0 ≤ y5 ∧ y5 < 256 := by have := (L.getD (k + 5) 0).toNat_lt; omega
            have b6 : 0 ≤ y6 ∧ y6 < 256 := by have := (L.getD (k + 6) 0).toNat_lt; omega
            have b8 : 0 ≤ y8 ∧ y8 < 256 := by have := (L.getD (k + 8) 0).toNat_lt; omega
            have b9 : 0 ≤ y9 ∧ y9 < 256 := by have := (L.getD (k + 9) 0).toNat_lt; omega
            obtain ⟨hh, eh⟩ : ∃ y : Int, y = pair L (k + 5) := ⟨_, rfl⟩
            obtain ⟨mm, em⟩ : ∃ y : Int, y = pair L (k + 8) := ⟨_, rfl⟩
            have eh' : hh = (y5 - 48) * 10 + y6 - 48 := by rw [eh, e5, e6]; rfl
            have em' : mm = (y8 - 48) * 10 + y9 - 48 := by rw [em, e8, e9]; rfl
            obtain ⟨a1, d1⟩ : ∃ a, a = y5 - 48 := ⟨_, rfl⟩
            obtain ⟨a2, d2⟩ : ∃ a, a = a1 * 10 := ⟨_, rfl⟩
            obtain ⟨a3, d3⟩ : ∃ a, a = a2 + y6 := ⟨_, rfl⟩
            obtain ⟨c1, f1⟩ : ∃ a, a = y8 - 48 := ⟨_, rfl⟩
            obtain ⟨c2, f2⟩ : ∃ a, a = c1 * 10 := ⟨_, rfl⟩
            obtain ⟨c3, f3⟩ : ∃ a, a = c2 + y9 := ⟨_, rfl⟩
            have p1 : IntKind.i64.wrap y5 = y5 := by rw [IntKind.wrap_i64]; omega
            have p2 : IntKind.i64.wrap (y5 - 48) = a1 := by rw [IntKind.wrap_i64]; omega
            have p3 : IntKind.i64.wrap (a1 * 10) = a2 := by rw [IntKind.wrap_i64]; omega
            have p4 : IntKind.i64.wrap y6 = y6 := by rw [IntKind.wrap_i64]; omega
            have p5 : IntKind.i64.wrap (a2 + y6) = a3 := by rw [IntKind.wrap_i64]; omega
            have p6 : IntKind.i64.wrap (a3 - 48) = hh := by rw [IntKind.wrap_i64]; omega
            have r1 : IntKind.i64.wrap y8 = y8 := by rw [IntKind.wrap_i64]; omega
            have r2 : IntKind.i64.wrap (y8 - 48) = c1 := by rw [IntKind.wrap_i64]; omega
            have r3 : IntKind.i64.wrap (c1 * 10) = c2 := by rw [IntKind.wrap_i64]; omega
            have r4 : IntKind.i64.wrap y9 = y9 := by rw [IntKind.wrap_i64]; omega
            have r5 : IntKind.i64.wrap (c2 + y9) = c3 := by rw [IntKind.wrap_i64]; omega
            have r6 : IntKind.i64.wrap (c3 - 48) = mm := by rw [IntKind.wrap_i64]; omega
            have bh : -528 ≤ hh ∧ hh ≤ 2300 := by omega
            have bm : -528 ≤ mm ∧ mm ≤ 2300 := by omega
            have EH := Lib.hid eh
            have EM := Lib.hid em
            clear eh em eh' em' e5 e6 e8 e9 d1 d2 d3 f1 f2 f3 b5 b6 b8 b9
            have mx := mixed
            go_quiet (fail)
            have hz1 := hz.drewN nq
            generalize w.drewN nq = w1 at hz1 ⊢
            clear z5 z6 p1 p2 p3 p4 p5 p6
            go_wp2_with fail
            go_quiet (fail)
            have hz2 := hz1.drewN nq
            generalize w1.drewN nq = w2 at hz2 ⊢
            clear z8 z9 r1 r2 r3 r4 r5 r6 hR10
            go_wp2_with fail
            go_loopw [9] (fun vi wr => ∃ d : Nat, vi = .int .i64 d ∧ d ≤ 7 ∧ Hid (∀ e : Nat, e < d → textI (nI * 10080 + e * 1440 + hh * 60 + mm) ≠ s) ∧ Kept z wr) (fun vi _ => 7 - (RowKit.intOf vi).toNat)
            case atStart => exact ⟨0, rfl, by omega, Lib.hid (by intro e he; omega), hz2⟩
            case round =>
              obtain ⟨d, rfl, hd7, hno, hzr⟩ := hrel
              by_cases hd : (d : Int) < 7
              · obtain ⟨s1, e1⟩ : ∃ a, a = nI * 10080 := ⟨_, rfl⟩
                obtain ⟨s2, e2⟩ : ∃ a, a = (d : Int) * 1440 := ⟨_, rfl⟩
                obtain ⟨s3, e3⟩ : ∃ a, a = s1 + s2 := ⟨_, rfl⟩
                obtain ⟨s4, e4⟩ : ∃ a, a = hh * 60 := ⟨_, rfl⟩
                obtain ⟨s5, e5⟩ : ∃ a, a = s3 + s4 := ⟨_, rfl⟩
                obtain ⟨s6, e6⟩ : ∃ a, a = s5 + mm := ⟨_, rfl⟩
                have p1 : IntKind.i64.wrap (nI * 10080) = s1 := by rw [IntKind.wrap_i64]; omega
                have p2 : IntKind.i64.wrap ((d : Int) * 1440) = s2 := by rw [IntKind.wrap_i64]; omega
                have p3 : IntKind.i64.wrap (s1 + s2) = s3 := by rw [IntKind.wrap_i64]; omega
                have p4 : IntKind.i64.wrap (hh * 60) = s4 := by rw [IntKind.wrap_i64]; omega
                have p5 : IntKind.i64.wrap (s3 + s4) = s5 := by rw [IntKind.wrap_i64]; omega
                have p6 : IntKind.i64.wrap (s5 + mm) = s6 := by rw [IntKind.wrap_i64]; omega
                have e7 := Lib.hid (show s6 = nI * 10080 + d * 1440 + hh * 60 + mm by omega)
                have T6 := fun w h => HT.out s6 w h
                obtain ⟨r, er⟩ : ∃ r, r = textI s6 := ⟨_, rfl⟩
                rw [← er] at T6
                have ER := Lib.hid er
                clear e1 e2 e3 e4 e5 e6 er hn7 bh bm
                go_wp2_with fail
                refine (T6 _ hzr).mono ?_
                rintro e w4 ⟨rfl, hz4⟩
                clear p1 p2 p3 p4 p5 p6 T6
                by_cases he : r = s
                · have hb : (r.toList == s.toList) = true := (Lib.bytes_beq_iff _ _).2 he
                  have HE := Lib.hid he
                  clear he
                  go_wp2_with fail
                  go_ret2
                  exact ⟨s6, 0, rfl, read_yes (by have := HS.out; omega) (by rw [← ER.out]; exact HE.out), hz4⟩
                · have hb : (r.toList == s.toList) = false := (Lib.bytes_beq_false_iff _ _).2 he
                  have HE := Lib.hid he
                  clear he
                  go_wp2_with fail
                  refine ⟨⟨d + 1, by congr 1, by omega, Lib.hid ?_, hz4⟩, by simp [RowKit.intOf]; omega⟩
                  intro e he
                  by_cases h : e = d
                  · rw [h, ← e7.out, ← ER.out]
                    exact HE.out
                  · exact hno.out e (by omega)
              · have PE : ParseEnd s 0 1 := end_bad fun t ht e => hno.out (t % 10080 / 1440) (by omega) (by
                  have := read_at HL.out ST.out t ht e
                  rw [← HH.out, ← EH.out, ← EM.out] at this
                  rw [← this, textI_of (by omega) (by omega), Int.toNat_natCast]
                  exact e)
                have HP := Lib.hid PE
                clear PE hn7 bh bm
                go_wp2_with fail
                go_ret2
                exact ⟨0, 1, rfl, HP.out, hzr⟩
          · have PE := read_no HL.out ⟨hk, hk7, hd.out, Or.inr (Or.inl ⟨hkl, by rw [← HC.out]; unfold Dig; have := HI.out; omega⟩)⟩ hsz
            have hq : ((s.size : Int) != (k : Int) + 10) = true := by simp; omega
            have HP := Lib.hid PE
            clear hsz hd PE hk7 hn7
            go_wp2_with fail
            go_ret2
            exact ⟨0, 1, rfl, HP.out, hz⟩
      · have HC := Lib.hid hc
        have HI := Lib.hid hcI
        have HH := Lib.hid hn
        clear hc hcI hn hget htk hc256

        by_cases hsz : s.size = k + 10
        · have ST : Hid (Stop L k) := Lib.hid ⟨hk, hk7, hd.out, Or.inr (Or.inl ⟨hkl, by rw [← HC.out]; unfold Dig; have := HI.out; omega⟩)⟩
          have hq : ((s.size : Int) != (k : Int) + 10) = false := by simp; omega
          have HS := Lib.hid hsz
          clear hsz hd hk7
          go_wp2_with fail
          obtain ⟨R, hR⟩ : ∃ R, R = s.extract k s.size := ⟨_, rfl⟩
          have hR10 : R.size = 10 := by rw [hR]; exact rest_size s k HS.out
          rw [← hR]
          have HR := Lib.hid hR
          clear hR
          obtain ⟨y5, e5⟩ : ∃ y : Int, y = ((L.getD (k + 5) 0).toNat : Int) := ⟨_, rfl⟩
          obtain ⟨y6, e6⟩ : ∃ y : Int, y = ((L.getD (k + 6) 0).toNat : Int) := ⟨_, rfl⟩
          obtain ⟨y8, e8⟩ : ∃ y : Int, y = ((L.getD (k + 8) 0).toNat : Int) := ⟨_, rfl⟩
          obtain ⟨y9, e9⟩ : ∃ y : Int, y = ((L.getD (k + 9) 0).toNat : Int) := ⟨_, rfl⟩
          have z5 : ((R[5]'(by omega)).toNat : Int) = y5 := by rw [rest_byte s L HL.out k 5 R HR.out (by omega), e5]
          have z6 : ((R[6]'(by omega)).toNat : Int) = y6 := by rw [rest_byte s L HL.out k 6 R HR.out (by omega), e6]
          have z8 : ((R[8]'(by omega)).toNat : Int) = y8 := by rw [rest_byte s L HL.out k 8 R HR.out (by omega), e8]
          have z9 : ((R[9]'(by omega)).toNat : Int) = y9 := by rw [rest_byte s L HL.out k 9 R HR.out (by omega), e9]
          have b5 : 0 ≤ y5 ∧ y5 < 256 := by have := (L.getD (k + 5) 0).toNat_lt; omega
          have b6 : 0 ≤ y6 ∧ y6 < 256 := by have := (L.getD (k + 6) 0).toNat_lt; omega
          have b8 : 0 ≤ y8 ∧ y8 < 256 := by have := (L.getD (k + 8) 0).toNat_lt; omega
          have b9 : 0 ≤ y9 ∧ y9 < 256 := by have := (L.getD (k + 9) 0).toNat_lt; omega
          obtain ⟨hh, eh⟩ : ∃ y : Int, y = pair L (k + 5) := ⟨_, rfl⟩
          obtain ⟨mm, em⟩ : ∃ y : Int, y = pair L (k + 8) := ⟨_, rfl⟩
          have eh' : hh = (y5 - 48) * 10 + y6 - 48 := by rw [eh, e5, e6]; rfl
          have em' : mm = (y8 - 48) * 10 + y9 - 48 := by rw [em, e8, e9]; rfl
          obtain ⟨a1, d1⟩ : ∃ a, a = y5 - 48 := ⟨_, rfl⟩
          obtain ⟨a2, d2⟩ : ∃ a, a = a1 * 10 := ⟨_, rfl⟩
          obtain ⟨a3, d3⟩ : ∃ a, a = a2 + y6 := ⟨_, rfl⟩
          obtain ⟨c1, f1⟩ : ∃ a, a = y8 - 48 := ⟨_, rfl⟩
          obtain ⟨c2, f2⟩ : ∃ a, a = c1 * 10 := ⟨_, rfl⟩
          obtain ⟨c3, f3⟩ : ∃ a, a = c2 + y9 := ⟨_, rfl⟩
          have p1 : IntKind.i64.wrap y5 = y5 := by rw [IntKind.wrap_i64]; omega
          have p2 : IntKind.i64.wrap (y5 - 48) = a1 := by rw [IntKind.wrap_i64]; omega
          have p3 : IntKind.i64.wrap (a1 * 10) = a2 := by rw [IntKind.wrap_i64]; omega
          have p4 : IntKind.i64.wrap y6 = y6 := by rw [IntKind.wrap_i64]; omega
          have p5 : IntKind.i64.wrap (a2 + y6) = a3 := by rw [IntKind.wrap_i64]; omega
          have p6 : IntKind.i64.wrap (a3 - 48) = hh := by rw [IntKind.wrap_i64]; omega
          have r1 : IntKind.i64.wrap y8 = y8 := by rw [IntKind.wrap_i64]; omega
          have r2 : IntKind.i64.wrap (y8 - 48) = c1 := by rw [IntKind.wrap_i64]; omega
          have r3 : IntKind.i64.wrap (c1 * 10) = c2 := by rw [IntKind.wrap_i64]; omega
          have r4 : IntKind.i64.wrap y9 = y9 := by rw [IntKind.wrap_i64]; omega
          have r5 : IntKind.i64.wrap (c2 + y9) = c3 := by rw [IntKind.wrap_i64]; omega
          have r6 : IntKind.i64.wrap (c3 - 48) = mm := by rw [IntKind.wrap_i64]; omega
          have bh : -528 ≤ hh ∧ hh ≤ 2300 := by omega
          have bm : -528 ≤ mm ∧ mm ≤ 2300 := by omega
          have EH := Lib.hid eh
          have EM := Lib.hid em
          clear eh em eh' em' e5 e6 e8 e9 d1 d2 d3 f1 f2 f3 b5 b6 b8 b9
          have mx := mixed
          go_quiet (fail)
          have hz1 := hz.drewN nq
          generalize w.drewN nq = w1 at hz1 ⊢
          clear z5 z6 p1 p2 p3 p4 p5 p6
          go_wp2_with fail
          go_quiet (fail)
          have hz2 := hz1.drewN nq
          generalize w1.drewN nq = w2 at hz2 ⊢
          clear z8 z9 r1 r2 r3 r4 r5 r6 hR10
          go_wp2_with fail
          go_loopw [9] (fun vi wr => ∃ d : Nat, vi = .int .i64 d ∧ d ≤ 7 ∧ Hid (∀ e : Nat, e < d → textI (nI * 10080 + e * 1440 + hh * 60 + mm) ≠ s) ∧ Kept z wr) (fun vi _ => 7 - (RowKit.intOf vi).toNat)
          case atStart => exact ⟨0, rfl, by omega, Lib.hid (by intro e he; omega), hz2⟩
          case round =>
            obtain ⟨d, rfl, hd7, hno, hzr⟩ := hrel
            by_cases hd : (d : Int) < 7
            · obtain ⟨s1, e1⟩ : ∃ a, a = nI * 10080 := ⟨_, rfl⟩
              obtain ⟨s2, e2⟩ : ∃ a, a = (d : Int) * 1440 := ⟨_, rfl⟩
              obtain ⟨s3, e3⟩ : ∃ a, a = s1 + s2 := ⟨_, rfl⟩
              obtain ⟨s4, e4⟩ : ∃ a, a = hh * 60 := ⟨_, rfl⟩
              obtain ⟨s5, e5⟩ : ∃ a, a = s3 + s4 := ⟨_, rfl⟩
              obtain ⟨s6, e6⟩ : ∃ a, a = s5 + mm := ⟨_, rfl⟩
              have p1 : IntKind.i64.wrap (nI * 10080) = s1 := by rw [IntKind.wrap_i64]; omega
              have p2 : IntKind.i64.wrap ((d : Int) * 1440) = s2 := by rw [IntKind.wrap_i64]; omega
              have p3 : IntKind.i64.wrap (s1 + s2) = s3 := by rw [IntKind.wrap_i64]; omega
              have p4 : IntKind.i64.wrap (hh * 60) = s4 := by rw [IntKind.wrap_i64]; omega
              have p5 : IntKind.i64.wrap (s3 + s4) = s5 := by rw [IntKind.wrap_i64]; omega
              have p6 : IntKind.i64.wrap (s5 + mm) = s6 := by rw [IntKind.wrap_i64]; omega
              have e7 := Lib.hid (show s6 = nI * 10080 + d * 1440 + hh * 60 + mm by omega)
              have T6 := fun w h => HT.out s6 w h
              obtain ⟨r, er⟩ : ∃ r, r = textI s6 := ⟨_, rfl⟩
              rw [← er] at T6
              have ER := Lib.hid er
              clear e1 e2 e3 e4 e5 e6 er hn7 bh bm
              go_wp2_with fail
              refine (T6 _ hzr).mono ?_
              rintro e w4 ⟨rfl, hz4⟩
              clear p1 p2 p3 p4 p5 p6 T6
              by_cases he : r = s
              · have hb : (r.toList == s.toList) = true := (Lib.bytes_beq_iff _ _).2 he
                have HE := Lib.hid he
                clear he
                go_wp2_with fail
                go_ret2
                exact ⟨s6, 0, rfl, read_yes (by have := HS.out; omega) (by rw [← ER.out]; exact HE.out), hz4⟩
              · have hb : (r.toList == s.toList) = false := (Lib.bytes_beq_false_iff _ _).2 he
                have HE := Lib.hid he
                clear he
                go_wp2_with fail
                refine ⟨⟨d + 1, by congr 1, by omega, Lib.hid ?_, hz4⟩, by simp [RowKit.intOf]; omega⟩
                intro e he
                by_cases h : e = d
                · rw [h, ← e7.out, ← ER.out]
                  exact HE.out
                · exact hno.out e (by omega)
            · have PE : ParseEnd s 0 1 := end_bad fun t ht e => hno.out (t % 10080 / 1440) (by omega) (by
                have := read_at HL.out ST.out t ht e
                rw [← HH.out, ← EH.out, ← EM.out] at this
                rw [← this, textI_of (by omega) (by omega), Int.toNat_natCast]
                exact e)
              have HP := Lib.hid PE
              clear PE hn7 bh bm
              go_wp2_with fail
              go_ret2
              exact ⟨0, 1, rfl, HP.out, hzr⟩
        · have PE := read_no HL.out ⟨hk, hk7, hd.out, Or.inr (Or.inl ⟨hkl, by rw [← HC.out]; unfold Dig; have := HI.out; omega⟩)⟩ hsz
          have hq : ((s.size : Int) != (k : Int) + 10) = true := by simp; omega
          have HP := Lib.hid PE
          clear hsz hd PE hk7 hn7
          go_wp2_with fail
          go_ret2
          exact ⟨0, 1, rfl, HP.out, hz⟩
    · have HH := Lib.hid hn
      clear hn hget

      by_cases hsz : s.size = k + 10
      · have ST : Hid (Stop L k) := Lib.hid ⟨hk, hk7, hd.out, Or.inl (by omega)⟩
        have hq : ((s.size : Int) != (k : Int) + 10) = false := by simp; omega
        have HS := Lib.hid hsz
        clear hsz hd hk7
        go_wp2_with fail
        obtain ⟨R, hR⟩ : ∃ R, R = s.extract k s.size := ⟨_, rfl⟩
        have hR10 : R.size = 10 := by rw [hR]; exact rest_size s k HS.out
        rw [← hR]
        have HR := Lib.hid hR
        clear hR
        obtain ⟨y5, e5⟩ : ∃ y : Int, y = ((L.getD (k + 5) 0).toNat : Int) := ⟨_, rfl⟩
        obtain ⟨y6, e6⟩ : ∃ y : Int, y = ((L.getD (k + 6) 0).toNat : Int) := ⟨_, rfl⟩
        obtain ⟨y8, e8⟩ : ∃ y : Int, y = ((L.getD (k + 8) 0).toNat : Int) := ⟨_, rfl⟩
        obtain ⟨y9, e9⟩ : ∃ y : Int, y = ((L.getD (k + 9) 0).toNat : Int) := ⟨_, rfl⟩
        have z5 : ((R[5]'(by omega)).toNat : Int) = y5 := by rw [rest_byte s L HL.out k 5 R HR.out (by omega), e5]
        have z6 : ((R[6]'(by omega)).toNat : Int) = y6 := by rw [rest_byte s L HL.out k 6 R HR.out (by omega), e6]
        have z8 : ((R[8]'(by omega)).toNat : Int) = y8 := by rw [rest_byte s L HL.out k 8 R HR.out (by omega), e8]
        have z9 : ((R[9]'(by omega)).toNat : Int) = y9 := by rw [rest_byte s L HL.out k 9 R HR.out (by omega), e9]
        have b5 : 0 ≤ y5 ∧ y5 < 256 := by have := (L.getD (k + 5) 0).toNat_lt; omega
        have b6 : 0 ≤ y6 ∧ y6 < 256 := by have := (L.getD (k + 6) 0).toNat_lt; omega
        have b8 : 0 ≤ y8 ∧ y8 < 256 := by have := (L.getD (k + 8) 0).toNat_lt; omega
        have b9 : 0 ≤ y9 ∧ y9 < 256 := by have := (L.getD (k + 9) 0).toNat_lt; omega
        obtain ⟨hh, eh⟩ : ∃ y : Int, y = pair L (k + 5) := ⟨_, rfl⟩
        obtain ⟨mm, em⟩ : ∃ y : Int, y = pair L (k + 8) := ⟨_, rfl⟩
        have eh' : hh = (y5 - 48) * 10 + y6 - 48 := by rw [eh, e5, e6]; rfl
        have em' : mm = (y8 - 48) * 10 + y9 - 48 := by rw [em, e8, e9]; rfl
        obtain ⟨a1, d1⟩ : ∃ a, a = y5 - 48 := ⟨_, rfl⟩
        obtain ⟨a2, d2⟩ : ∃ a, a = a1 * 10 := ⟨_, rfl⟩
        obtain ⟨a3, d3⟩ : ∃ a, a = a2 + y6 := ⟨_, rfl⟩
        obtain ⟨c1, f1⟩ : ∃ a, a = y8 - 48 := ⟨_, rfl⟩
        obtain ⟨c2, f2⟩ : ∃ a, a = c1 * 10 := ⟨_, rfl⟩
        obtain ⟨c3, f3⟩ : ∃ a, a = c2 + y9 := ⟨_, rfl⟩
        have p1 : IntKind.i64.wrap y5 = y5 := by rw [IntKind.wrap_i64]; omega
        have p2 : IntKind.i64.wrap (y5 - 48) = a1 := by rw [IntKind.wrap_i64]; omega
        have p3 : IntKind.i64.wrap (a1 * 10) = a2 := by rw [IntKind.wrap_i64]; omega
        have p4 : IntKind.i64.wrap y6 = y6 := by rw [IntKind.wrap_i64]; omega
        have p5 : IntKind.i64.wrap (a2 + y6) = a3 := by rw [IntKind.wrap_i64]; omega
        have p6 : IntKind.i64.wrap (a3 - 48) = hh := by rw [IntKind.wrap_i64]; omega
        have r1 : IntKind.i64.wrap y8 = y8 := by rw [IntKind.wrap_i64]; omega
        have r2 : IntKind.i64.wrap (y8 - 48) = c1 := by rw [IntKind.wrap_i64]; omega
        have r3 : IntKind.i64.wrap (c1 * 10) = c2 := by rw [IntKind.wrap_i64]; omega
        have r4 : IntKind.i64.wrap y9 = y9 := by rw [IntKind.wrap_i64]; omega
        have r5 : IntKind.i64.wrap (c2 + y9) = c3 := by rw [IntKind.wrap_i64]; omega
        have r6 : IntKind.i64.wrap (c3 - 48) = mm := by rw [IntKind.wrap_i64]; omega
        have bh : -528 ≤ hh ∧ hh ≤ 2300 := by omega
        have bm : -528 ≤ mm ∧ mm ≤ 2300 := by omega
        have EH := Lib.hid eh
        have EM := Lib.hid em
        clear eh em eh' em' e5 e6 e8 e9 d1 d2 d3 f1 f2 f3 b5 b6 b8 b9
        have mx := mixed
        go_quiet (fail)
        have hz1 := hz.drewN nq
        generalize w.drewN nq = w1 at hz1 ⊢
        clear z5 z6 p1 p2 p3 p4 p5 p6
        go_wp2_with fail
        go_quiet (fail)
        have hz2 := hz1.drewN nq
        generalize w1.drewN nq = w2 at hz2 ⊢
        clear z8 z9 r1 r2 r3 r4 r5 r6 hR10
        go_wp2_with fail
        go_loopw [9] (fun vi wr => ∃ d : Nat, vi = .int .i64 d ∧ d ≤ 7 ∧ Hid (∀ e : Nat, e < d → textI (nI * 10080 + e * 1440 + hh * 60 + mm) ≠ s) ∧ Kept z wr) (fun vi _ => 7 - (RowKit.intOf vi).toNat)
        case atStart => exact ⟨0, rfl, by omega, Lib.hid (by intro e he; omega), hz2⟩
        case round =>
          obtain ⟨d, rfl, hd7, hno, hzr⟩ := hrel
          by_cases hd : (d : Int) < 7
          · obtain ⟨s1, e1⟩ : ∃ a, a = nI * 10080 := ⟨_, rfl⟩
            obtain ⟨s2, e2⟩ : ∃ a, a = (d : Int) * 1440 := ⟨_, rfl⟩
            obtain ⟨s3, e3⟩ : ∃ a, a = s1 + s2 := ⟨_, rfl⟩
            obtain ⟨s4, e4⟩ : ∃ a, a = hh * 60 := ⟨_, rfl⟩
            obtain ⟨s5, e5⟩ : ∃ a, a = s3 + s4 := ⟨_, rfl⟩
            obtain ⟨s6, e6⟩ : ∃ a, a = s5 + mm := ⟨_, rfl⟩
            have p1 : IntKind.i64.wrap (nI * 10080) = s1 := by rw [IntKind.wrap_i64]; omega
            have p2 : IntKind.i64.wrap ((d : Int) * 1440) = s2 := by rw [IntKind.wrap_i64]; omega
            have p3 : IntKind.i64.wrap (s1 + s2) = s3 := by rw [IntKind.wrap_i64]; omega
            have p4 : IntKind.i64.wrap (hh * 60) = s4 := by rw [IntKind.wrap_i64]; omega
            have p5 : IntKind.i64.wrap (s3 + s4) = s5 := by rw [IntKind.wrap_i64]; omega
            have p6 : IntKind.i64.wrap (s5 + mm) = s6 := by rw [IntKind.wrap_i64]; omega
            have e7 := Lib.hid (show s6 = nI * 10080 + d * 1440 + hh * 60 + mm by omega)
            have T6 := fun w h => HT.out s6 w h
            obtain ⟨r, er⟩ : ∃ r, r = textI s6 := ⟨_, rfl⟩
            rw [← er] at T6
            have ER := Lib.hid er
            clear e1 e2 e3 e4 e5 e6 er hn7 bh bm
            go_wp2_with fail
            refine (T6 _ hzr).mono ?_
            rintro e w4 ⟨rfl, hz4⟩
            clear p1 p2 p3 p4 p5 p6 T6
            by_cases he : r = s
            · have hb : (r.toList == s.toList) = true := (Lib.bytes_beq_iff _ _).2 he
              have HE := Lib.hid he
              clear he
              go_wp2_with fail
              go_ret2
              exact ⟨s6, 0, rfl, read_yes (by have := HS.out; omega) (by rw [← ER.out]; exact HE.out), hz4⟩
            · have hb : (r.toList == s.toList) = false := (Lib.bytes_beq_false_iff _ _).2 he
              have HE := Lib.hid he
              clear he
              go_wp2_with fail
              refine ⟨⟨d + 1, by congr 1, by omega, Lib.hid ?_, hz4⟩, by simp [RowKit.intOf]; omega⟩
              intro e he
              by_cases h : e = d
              · rw [h, ← e7.out, ← ER.out]
                exact HE.out
              · exact hno.out e (by omega)
          · have PE : ParseEnd s 0 1 := end_bad fun t ht e => hno.out (t % 10080 / 1440) (by omega) (by
              have := read_at HL.out ST.out t ht e
              rw [← HH.out, ← EH.out, ← EM.out] at this
              rw [← this, textI_of (by omega) (by omega), Int.toNat_natCast]
              exact e)
            have HP := Lib.hid PE
            clear PE hn7 bh bm
            go_wp2_with fail
            go_ret2
            exact ⟨0, 1, rfl, HP.out, hzr⟩
      · have PE := read_no HL.out ⟨hk, hk7, hd.out, Or.inl (by omega)⟩ hsz
        have hq : ((s.size : Int) != (k : Int) + 10) = true := by simp; omega
        have HP := Lib.hid PE
        clear hsz hd PE hk7 hn7
        go_wp2_with fail
        go_ret2
        exact ⟨0, 1, rfl, HP.out, hz⟩

set_option maxHeartbeats 2000000 in
set_option maxRecDepth 20000 in
theorem texts_any (t : Int) (s : ByteArray) (hs : s.size ≤ 281474976710656) (w : World) (L : Laid w) : Calls Tryd.prog 3 #[.int .i64 t, .string s] w fun e w' => e = .returned (.bool true) ∧ Kept w w' := by
  obtain ⟨z, hzw⟩ : ∃ z, z = w := ⟨_, rfl⟩
  have hz : Kept z w := by rw [hzw]; exact Kept.refl _
  suffices H : Calls Tryd.prog 3 #[.int .i64 t, .string s] w fun e w' => e = .returned (.bool true) ∧ Kept z w' by rw [hzw] at H; exact H
  rw [← hzw] at L
  clear hzw
  have A := fun w h => awake_any z L w h
  have T := fun w h => text_any z L t w h
  have RT := fun w h => rtext_any t w z h
  have PS := fun w h => parse_any z L s hs w h
  have RP := fun w h => rparse_any z s hs w h
  generalize textI t = r at T RT
  clear L hs
  go_enter Tryd.func3, Tryd.ntmps3
  go_wp2_with fail
  refine (A _ hz).mono ?_
  rintro e w1 ⟨rfl, hz1⟩
  go_wp2_with fail
  refine (T _ hz1).mono ?_
  rintro e w2 ⟨rfl, hz2⟩
  go_wp2_with fail
  refine (PS _ hz2).mono ?_
  rintro e w3 ⟨n, x, rfl, hp, hz3⟩
  have HP := Lib.hid hp
  clear hp
  go_wp2_with fail
  refine (RP _ hz3).mono ?_
  rintro e w4 ⟨m, f, rfl, hq, hz4⟩
  obtain ⟨rfl, rfl⟩ := hq.alike HP.out
  clear HP hq
  go_wp2_with fail
  refine (RT _ hz4).mono ?_
  rintro e w5 ⟨rfl, hz5⟩
  go_wp2_with fail
  go_ret
  exact ⟨by simp, hz5⟩
end Go.Proofs.YtgcdldbfikodaaaDoor.Hand
