/- debt's Book by hand: the words (blocks known whole, a book in memory), New, Set, Pay, Account, Debt. -/
import Derived.Test.YtbfpggghcdfghaaPureA
import Derived.Test.YtbfpggghcdfghaaXAx
import Derived.WalkLawsBesides
import Derived.Lib.Hide
namespace Go.Proofs.Ytbfpggghcdfghaa.Hand
open Go.RowKit Go.Maps Go.Proofs.YtbfpggghcdfghaaW.PrintWords Go.Proofs.Ytbfpggghcdfghaa.PA

/-! ### a block known whole -/
def Blk (w : World) (g : Nat) (t : TypeId) (cs : Array Value) : Prop := w.heap[g]? = some (.cells cs t (0, 0))
section
variable {w w' : World} {g : Nat} {t : TypeId} {cs : Array Value}
theorem Blk.lt (h : Blk w g t cs) : g < w.heap.size := by
  rcases Nat.lt_or_ge g w.heap.size with hlt | hge
  · exact hlt
  · unfold Blk at h; rw [Array.getElem?_eq_none hge] at h; cases h
theorem Blk.cell (h : Blk w g t cs) (i : Nat) : w.cell? ⟨g, i, none⟩ = cs[i]? := cell_of_row w g i cs t (0, 0) h
theorem Blk.frozen (h : Blk w g t cs) (i : Nat) : w.frozen? ⟨g, i, none⟩ = false := by
  unfold Blk at h
  simp [World.frozen?, h]
theorem Blk.new (w : World) (t : TypeId) (cs : Array Value) : Blk (w.alloc (.cells cs t)) w.heap.size t cs := heap_alloc_new w _
theorem Blk.new_ (w : World) {g : Nat} (t : TypeId) (cs : Array Value) (hg : w.heap.size = g) : Blk (w.alloc (.cells cs t)) g t cs := by subst hg; exact heap_alloc_new w _
theorem Blk.alloc (h : Blk w g t cs) (o : Obj) : Blk (w.alloc o) g t cs := (Below.heap_alloc w o g h.lt).trans h
theorem Blk.below {B : Nat} (h : Blk w g t cs) (hb : Below B w w') (hg : g < B) : Blk w' g t cs := (hb.block g hg).trans h
theorem Blk.grown {row : Option Nat} (h : Blk w g t cs) (hb : w.grownBy w' row) (hg : some g ≠ row) : Blk w' g t cs := (hb.block g h.lt hg).trans h
theorem Blk.far (h : Blk w g t cs) {p : Addr} (hp : g ≠ p.block) (u : Value) : Blk (w.setCell p u) g t cs := (Below.heap_setCell w p u g hp).trans h
theorem Blk.set (h : Blk w g t cs) (i : Nat) (u : Value) : Blk (w.setCell ⟨g, i, none⟩ u) g t (cs.setIfInBounds i u) := by
  unfold Blk at h ⊢
  simp only [World.setCell, Array.getElem?_modify, if_true, h]
  rfl
end

/-! ### a book in memory -/
structure Bk (w : World) (p b : Nat) (m : List Acct) : Prop where
  blk : Blk w p 57 #[.map (some b)]
  own : w.ownsMap Try.prog 9 sumsElem b m.length (dat m)
  ne : p ≠ b
section
variable {w w' : World} {p b : Nat} {m : List Acct}
theorem own_exact {n : Nat} (h : w.ownsMap Try.prog 9 sumsElem b n (dat m)) : w.ownsMap Try.prog 9 sumsElem b m.length (dat m) := by
  obtain ⟨es, clock, hb, F, hs, hD⟩ := h
  refine ⟨es, clock, hb, F, ?_, hD⟩
  have e : (DataW.map (((es.toList.map (WideElems.rg Try.prog 9 sumsElem)).foldr DataW.insert [])) : DataW Unit) = dat m := hD.symm
  have := congrArg Maps.size e
  rw [size_dat] at this
  simp [Maps.size, length_sorted] at this
  omega
theorem Bk.kept {row : Option Nat} (h : Bk w p b m) (hg : w.grownBy w' row) (hp : some p ≠ row) (hb : some b ≠ row) : Bk w' p b m := ⟨h.blk.grown hg hp, h.own.kept hg hb, h.ne⟩
theorem Bk.ltp (h : Bk w p b m) : p < w.heap.size := h.blk.lt
theorem Bk.ltb (h : Bk w p b m) : b < w.heap.size := h.own.lt
theorem Bk.alloc (h : Bk w p b m) (o : Obj) : Bk (w.alloc o) p b m := h.kept (World.grownBy_alloc w o none) (by simp) (by simp)
theorem Bk.below {B : Nat} (h : Bk w p b m) (hb : Below B w w') (h1 : p < B) (h2 : b < B) : Bk w' p b m := by
  obtain ⟨es, clock, hm, r⟩ := h.own
  exact ⟨h.blk.below hb h1, ⟨es, clock, (hb.block b h2).trans hm, r⟩, h.ne⟩
end

/-! ### the map's operations -/
theorem keyed9 : Keyed Try.prog 9 := string_keyed Try.underlying9
theorem key_of {t : ByteArray} (ht : t.size ≤ maxLen) : keyOf Try.prog 9 (.string t) = some (kl t) := Go.WideMaps.keyOf_string_mk Try.underlying9 ht
theorem zero59 (w : World) : (zeroValue 59).run Try.prog w = .ok (.agg #[.int .i64 0, .int .i64 0]) w := by kernel_rfl
theorem at_is {m : List Acct} {t : ByteArray} : (dat m).atKey (kl t) (sumsD 0 0) = sumsD (chS m t) (paS m t) := by
  rw [at_dat]
  unfold chS paS
  cases h : getS m t with
  | none => rfl
  | some x => rfl
theorem wpList_look_ok {w : World} {ops : Array Oper} {rest : List Oper} {o : Oper} {a : Act} {Q : Exit → Act → World → Prop} (hg : o.guard = none) (mo x : Operand) (hop : o.op = Op.lookup 55 mo x true)
    {b n : Nat} {m : List Acct} (hm : a.eval mo = .map (some b)) (hown : w.ownsMap Try.prog 9 sumsElem b n (dat m)) (t : ByteArray) (hx : a.eval x = .string t) (ht : t.size ≤ maxLen)
    (hK : wpList Try.prog ops Q rest (a.put o.dst (.tuple #[.agg #[.int .i64 (chS m t), .int .i64 (paS m t)], .bool (isS m t)])) w) : wpList Try.prog ops Q (o :: rest) a w :=
  wpList_lookup_own_ok w hg mo x 55 hop 9 59 keyed9 Try.underlying55 sumsElem (zero59 w) (sumsD 0 0) [] rfl b n (dat m) hm hown (.string t) (kl t) hx (key_of ht) (fun v ps hv => by
    rw [at_is] at hv
    obtain ⟨c, d, rfl, he⟩ := sumsElem_inv hv
    have := sumsD_inj (congrArg Prod.fst he)
    rw [← this.1, ← this.2, has_dat]
    exact hK)
theorem wpList_look {w : World} {ops : Array Oper} {rest : List Oper} {o : Oper} {a : Act} {Q : Exit → Act → World → Prop} (hg : o.guard = none) (mo x : Operand) (hop : o.op = Op.lookup 55 mo x false)
    {b n : Nat} {m : List Acct} (hm : a.eval mo = .map (some b)) (hown : w.ownsMap Try.prog 9 sumsElem b n (dat m)) (t : ByteArray) (hx : a.eval x = .string t) (ht : t.size ≤ maxLen)
    (hK : wpList Try.prog ops Q rest (a.put o.dst (.agg #[.int .i64 (chS m t), .int .i64 (paS m t)])) w) : wpList Try.prog ops Q (o :: rest) a w := by
  refine wpList_plain hg fun K' hK' => ?_
  obtain ⟨v, ps, hrun, hv⟩ := hown.lookup keyed9 Try.underlying55 (zero59 w) (show sumsElem (.agg #[.int .i64 0, .int .i64 0]) = some (sumsD 0 0, []) from rfl) (key_of ht)
  rw [at_is] at hv
  obtain ⟨c, d, rfl, he⟩ := sumsElem_inv hv
  have := sumsD_inj (congrArg Prod.fst he)
  rw [← this.1, ← this.2] at hrun
  unfold Oper.wp
  simp [execOp, hop, hm, hx, hrun, Result.andThen]
  exact hK' _ _ hK
theorem wpList_store {w : World} {ops : Array Oper} {rest : List Oper} {o : Oper} {a : Act} {Q : Exit → Act → World → Prop} (hg : o.guard = none) (mo x v : Operand) (hop : o.op = Op.mapUpdate 55 mo x v)
    {b n : Nat} {m : List Acct} (hm : a.eval mo = .map (some b)) (hown : w.ownsMap Try.prog 9 sumsElem b n (dat m)) (hn : n < maxLen) (t : ByteArray) (hx : a.eval x = .string t) (ht : t.size ≤ maxLen) (c d : Int) (hv : a.eval v = .agg #[.int .i64 c, .int .i64 d])
    (hK : ∀ w', w'.ownsMap Try.prog 9 sumsElem b (putS m t c d).length (dat (putS m t c d)) → w.grownBy w' (some b) → wpList Try.prog ops Q rest (a.put o.dst undef) w') : wpList Try.prog ops Q (o :: rest) a w :=
  wpList_mapUpdate_own w hg mo x v 55 hop 9 59 keyed9 Try.underlying55 sumsElem b n (dat m) hm hown hn (.string t) _ (kl t) hx hv (key_of ht) (sumsD c d) [] rfl (fun w' h1 h2 => hK w' (own_exact (by rw [← put_dat]; exact h1)) h2)

/-! ### New -/
theorem new_any (w : World) : Calls Try.prog 8 #[] w fun e w' => e = .returned (.pointer (some ⟨w.heap.size + 1, 0, none⟩)) ∧ Bk w' (w.heap.size + 1) w.heap.size [] ∧ w.grownBy w' none := by
  have hmm := @run_makeMap Try.prog
  go_enter Try.func8, Try.ntmps8
  go_wp2
  go_ret
  refine ⟨rfl, ⟨Blk.new_ _ _ _ (by simp), ?_, by omega⟩, (World.grownBy_alloc _ _ _).trans (World.grownBy_alloc _ _ _)⟩
  exact (World.ownsMap_made w Try.prog 9 sumsElem).alloc _
end Go.Proofs.Ytbfpggghcdfghaa.Hand
