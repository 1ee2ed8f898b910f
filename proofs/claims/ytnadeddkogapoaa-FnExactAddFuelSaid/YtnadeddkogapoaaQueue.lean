/- A slice of one's own at whatever offset: what an append of any slice makes of it, what a cut of its head leaves. Conditions: as each states. -/
import Derived.Test.YtnadeddkogapoaaSlice
import Derived.Deep.AppendSrc
import Derived.Deep.Upon
import Derived.RegionTactic
namespace Go.Proofs.Ytnadeddkogapoaa
open Go.RowKit
set_option linter.unusedVariables false
set_option linter.unusedSimpArgs false
set_option maxRecDepth 100000

/-- A slice value of n elements of k cells each in a block of one's own (from base on), at whatever offset. -/
def Qw (w : World) (base : Nat) (e : TypeId) (k : Nat) (v : Value) (n : Nat) (xs : List Value) : Prop :=
  xs.length = n * k ∧ ((v = .slice none 0 0 ∧ n = 0) ∨
    ∃ g off cap cur, v = .slice (some ⟨g, off, none⟩) n cap ∧ base ≤ g ∧ w.heap[g]? = some (.cells cur e (0, 0)) ∧ n ≤ cap ∧ cap ≤ maxLen ∧ off + cap * k ≤ cur.size ∧ (cur.toList.drop off).take (n * k) = xs)

section
variable {w w' : World} {base : Nat} {e : TypeId} {k n : Nat} {v : Value} {xs : List Value}

theorem Qw.of_own (h : w.ownsRow base e k v n xs) : Qw w base e k v n xs := by
  refine ⟨h.1, ?_⟩
  rcases h.2 with hn | ⟨g, cap, cur, rfl, hb, hg, hn, hm, hs, ht⟩
  · exact .inl hn
  · exact .inr ⟨g, 0, cap, cur, rfl, hb, hg, hn, hm, by omega, by simpa using ht⟩
theorem Qw.nil (w : World) (base : Nat) (e : TypeId) (k : Nat) : Qw w base e k (.slice none 0 0) 0 [] := ⟨by simp, .inl ⟨rfl, rfl⟩⟩
theorem Qw.below (h : Qw w base e k v n xs) (hb : Below w.heap.size w w') : Qw w' base e k v n xs := by
  refine ⟨h.1, ?_⟩
  rcases h.2 with hn | ⟨g, off, cap, cur, rfl, hb', hg, rest⟩
  · exact .inl hn
  · refine .inr ⟨g, off, cap, cur, rfl, hb', ?_, rest⟩
    rw [hb.block g (Array.getElem?_eq_some_iff.1 hg).1]
    exact hg
theorem Qw.lower (h : Qw w base e k v n xs) {base' : Nat} (hb : base' ≤ base) : Qw w base' e k v n xs := by
  refine ⟨h.1, ?_⟩
  rcases h.2 with hn | ⟨g, off, cap, cur, rfl, hb', rest⟩
  · exact .inl hn
  · exact .inr ⟨g, off, cap, cur, rfl, Nat.le_trans hb hb', rest⟩
theorem Qw.kept {row : Option Nat} (h : Qw w base e k v n xs) (hg : w.grownBy w' row) (hne : ∀ j, v.ownBlock = some j → some j ≠ row) : Qw w' base e k v n xs := by
  refine ⟨h.1, ?_⟩
  rcases h.2 with hn | ⟨g, off, cap, cur, rfl, hb', hg', rest⟩
  · exact .inl hn
  · refine .inr ⟨g, off, cap, cur, rfl, hb', ?_, rest⟩
    rw [hg.block g (Array.getElem?_eq_some_iff.1 hg').1 (hne g rfl)]
    exact hg'
theorem Qw.lt (h : Qw w base e k v n xs) : ∀ j, v.ownBlock = some j → base ≤ j ∧ j < w.heap.size := by
  intro j hj
  rcases h.2 with ⟨rfl, _⟩ | ⟨g, off, cap, cur, rfl, hb', hg, _⟩
  · simp [Value.ownBlock] at hj
  · simp [Value.ownBlock] at hj
    subst hj
    exact ⟨hb', (Array.getElem?_eq_some_iff.1 hg).1⟩
theorem Qw.cells (h : Qw w base e k v n xs) {g off cap : Nat} {spot : Option Nat} (hv : v = .slice (some ⟨g, off, none⟩) n cap) : ∀ j u, xs[j]? = some u → w.cell? ⟨g, off + j, none⟩ = some u := by
  intro j u hu
  rcases h.2 with ⟨rfl, _⟩ | ⟨g', off', cap', cur, rfl, _, hg, _, _, _, ht⟩
  · cases hv
  · injection hv with e1 _ e2
    injection e1 with e1
    injection e1 with e1 e3
    subst e1 e3 e2
    rw [cell_of_row w g' (off' + j) cur e (0, 0) hg]
    rw [← ht, List.getElem?_take] at hu
    split at hu
    · rw [List.getElem?_drop] at hu; simpa using hu
    · cases hu
theorem Sl.of_q (h : Qw w base e k v n xs) : Sl w k v n xs := by
  rcases h.2 with ⟨rfl, rfl⟩ | ⟨g, off, cap, cur, rfl, _, hg, hn, hm, hs, ht⟩
  · exact ⟨none, 0, rfl, Nat.le_refl _, by unfold maxLen; omega, h.1, fun hp => by have := h.1; omega⟩
  · exact ⟨_, cap, rfl, hn, hm, h.1, fun _ => ⟨g, off, rfl, h.cells (spot := none) rfl⟩⟩
/-- What a slice yields to an append. -/
theorem Sl.src {P : Program} {t : TypeId} (ht : P.underlying t = some (.slice e)) (h : Sl w k v n xs) (hk : 0 < k) (h1 : ∀ u ∈ xs, u.oneCell' = true) : Src P k t v n xs w := by
  obtain ⟨A, c, rfl, _, _, hl, hc⟩ := h
  rcases Nat.eq_zero_or_pos n with rfl | hn
  · obtain rfl : xs = [] := List.eq_nil_of_length_eq_zero (by simpa using hl)
    cases A with
    | none => exact Src.ofNil w ht c
    | some a => exact Src.ofSlice w ht a 0 c [] (by simp) (fun j u h => by simp at h) h1
  · obtain ⟨b, off, rfl, hcell⟩ := hc (by rw [hl]; exact Nat.mul_pos hn hk)
    exact Src.ofSlice w ht _ n c xs hl (fun j u hj => by rw [Addr.add_lit]; exact hcell j u hj) h1
/-- The head cut off. -/
theorem Qw.tail (h : Qw w base e 1 v (n + 1) xs) : ∃ A c, v = .slice A (n + 1) c ∧ n + 1 ≤ c ∧ c ≤ maxLen ∧ Qw w base e 1 (.slice (if c = 1 then A else A.map (·.add 1)) n (c - 1)) n (xs.drop 1) := by
  rcases h.2 with ⟨rfl, h0⟩ | ⟨g, off, cap, cur, rfl, hb, hg, hn, hm, hs, ht⟩
  · cases h0
  · refine ⟨_, cap, rfl, hn, hm, by rw [List.length_drop, h.1]; omega, .inr ?_⟩
    by_cases e1 : cap = 1
    · subst e1
      obtain rfl : n = 0 := by omega
      refine ⟨g, off, 0, cur, by simp, hb, hg, Nat.le_refl _, by omega, by omega, ?_⟩
      have : xs.length = 1 := by simpa using h.1
      simp [List.drop_eq_nil_of_le (Nat.le_of_eq this)]
    · refine ⟨g, off + 1, cap - 1, cur, by simp [e1, Addr.add_lit], hb, hg, by omega, by omega, by omega, ?_⟩
      rw [← ht, List.drop_take, List.drop_drop]; simp
end

section
variable {P : Program} (w : World)
/-- Any slice appended to a slice of one's own. -/
theorem run_append_q (base : Nat) (t ty e : TypeId) (i : TypeInfo) (z : Value) (size bytes : Nat) (ht : P.underlying t = some (.slice e)) (hi : P.info? e = some i) (hz : i.zero = some z)
    (hsize : i.size = size) (hby : i.bytes = bytes) (hzs : z.cells.size = size) (hsz : 0 < size)
    (v : Value) (n : Nat) (xs : List Value) (hown : Qw w base e size v n xs)
    (x : Value) (m : Nat) (news : List Value) (hx : Sl w size x m news) (h1 : ∀ u ∈ news, u.oneCell' = true)
    (h63 : n + m ≤ maxLen) (hbytes : (n + m) * bytes ≤ 140737488355328) (hbase : base ≤ w.heap.size) :
    ∃ v' w', (Builtin.append_ #[t, t] ty #[v, x]).run P w = .ok v' w' ∧ Qw w' base e size v' (n + m) (xs ++ news) ∧ w.grownBy w' v.ownBlock ∧ (v'.ownBlock = v.ownBlock ∨ v'.ownBlock = some w.heap.size) := by
  subst hsize
  subst hby
  have hsrc := hx.src (P := P) ht hsz h1
  have hnl : news.length = m * i.size := hsrc.newsLen
  have hlen : (xs ++ news).length = (n + m) * i.size := by rw [List.length_append, hown.1, hnl, Nat.add_mul]
  have grown : ∀ (v : Value) (A : Option Addr) (cap : Nat), v = .slice A n cap → cap < n + m → (Builtin.firstCells i.size n (.slice A n cap)).run P w.drew = .ok xs.toArray w.drew →
      ∃ v' w', (Builtin.append_ #[t, t] ty #[v, x]).run P w = .ok v' w' ∧ Qw w' base e i.size v' (n + m) (xs ++ news) ∧ w.grownBy w' v.ownBlock ∧ (v'.ownBlock = v.ownBlock ∨ v'.ownBlock = some w.heap.size) := by
    intro v A cap hv hc hold
    subst hv
    have hge := grownCap_ge w (n + m) cap e
    have hcm : grownCap w (n + m) cap e ≤ maxLen := grownCap_le_maxLen w (n + m) cap e h63
    have hr := run_append_grow_src (P := P) w t t ty e i z ht hi hz A n cap xs hold x m news hsrc hc (by simp only [maxLen] at h63; omega) (growslice_fits (by omega) hbytes)
    refine ⟨_, _, hr, ⟨hlen, .inr ⟨w.heap.size, 0, _, _, rfl, hbase, heap_alloc_new w.drew _, hge, hcm, ?_, ?_⟩⟩, ⟨rfl, rfl, rfl, by simp, fun j hj _ => heap_alloc_old w.drew _ hj⟩, .inr rfl⟩
    · simp only [Array.size_append, List.size_toArray, size_zeroCells, hzs, hlen, ← Nat.add_mul, Nat.zero_add]
      exact Nat.le_of_eq (by congr 1; omega)
    · simp only [Array.toList_append, List.drop_zero]
      rw [← hlen]
      exact List.take_left
  rcases hown.2 with ⟨rfl, rfl⟩ | ⟨g, off, cap, cur, rfl, hb, hg, hnc, hcm, hcs, htake⟩
  · obtain rfl : xs = [] := List.eq_nil_of_length_eq_zero (by simpa using hown.1)
    by_cases hm : m = 0
    · subst hm
      obtain rfl : news = [] := List.eq_nil_of_length_eq_zero (by simpa using hnl)
      exact ⟨.slice none 0 0, w, run_append_nothing w t t ty e i ht hi none 0 0 (Nat.le_refl _) x hsrc, Qw.nil w base e i.size, ⟨rfl, rfl, rfl, Nat.le_refl _, fun _ _ _ => rfl⟩, .inl rfl⟩
    · exact grown _ none 0 rfl (by omega) (run_firstCells_none w.drew i.size 0 0 0)
  · by_cases hroom : n + m ≤ cap
    · have hfit : off + n * i.size + news.length ≤ cur.size := by
        have : (n + m) * i.size ≤ cap * i.size := Nat.mul_le_mul_right _ hroom
        rw [Nat.add_mul] at this; omega
      have hst := run_storeCells_at P g (off + n * i.size) e news 0 cur w hg (by simpa using hfit) hsrc.one
      simp only [Nat.add_zero] at hst
      have hr : (Builtin.append_ #[t, t] ty #[.slice (some ⟨g, off, none⟩) n cap, x]).run P w = .ok (.slice (some ⟨g, off, none⟩) (n + m) cap) (w.setRow g (cur.toList.take (off + n * i.size) ++ news ++ cur.toList.drop (off + n * i.size + news.length)).toArray) := by
        rcases hsrc.kind with ⟨e', hk⟩ | hk <;> simp [Builtin.append_, run_underlying ht, run_underlying hk, sizeOf, typeInfo, hi, hsrc.len, hroom, hsrc.cells, Addr.add_lit, hst]
      refine ⟨_, _, hr, ⟨hlen, .inr ⟨g, off, cap, _, rfl, hb, setRow_heap w g cur _ e _ hg, hroom, hcm, ?_, ?_⟩⟩, ⟨rfl, rfl, rfl, by simp, fun k _ hk => setRow_other w g k _ (fun e => hk (by simp [Value.ownBlock, e]))⟩, .inl rfl⟩
      · simp only [List.size_toArray, List.length_append, List.length_take, List.length_drop, Array.length_toList]
        omega
      · have h1 : (cur.toList.take (off + n * i.size)).drop off = xs := by rw [List.drop_take, Nat.add_sub_cancel_left]; exact htake
        have h2 : (cur.toList.take (off + n * i.size)).length = off + n * i.size := by rw [List.length_take, Array.length_toList]; omega
        show List.take _ (List.drop off (_ ++ _ ++ _)) = _
        rw [List.append_assoc, List.drop_append_of_le_length (by omega), h1, ← List.append_assoc, ← hlen]
        exact List.take_left
    · refine grown _ _ cap rfl (by omega) ?_
      exact run_firstCells_some w.drew i.size n _ n cap xs hown.1 (fun j u hj => by rw [Addr.add_lit]; simpa using hown.cells (spot := none) rfl j u hj)

theorem wpList_append_q {ops : Array Oper} {rest : List Oper} {o : Oper} {a : Act} {Q : Exit → Act → World → Prop} (hgd : o.guard = none) (s x : Operand) (t : TypeId)
    (ho : o.op = .call { callee := .builtin .append, args := #[s, x], argTypes := #[t, t] })
    (base : Nat) (e : TypeId) (i : TypeInfo) (z : Value) (size bytes : Nat) (ht : P.underlying t = some (.slice e)) (hi : P.info? e = some i) (hz : i.zero = some z)
    (hsize : i.size = size) (hby : i.bytes = bytes) (hzs : z.cells.size = size) (hsz : 0 < size)
    (v : Value) (n : Nat) (xs : List Value) (hs : a.eval s = v) (hown : Qw w base e size v n xs)
    (xv : Value) (m : Nat) (news : List Value) (hx : a.eval x = xv) (hsl : Sl w size xv m news) (h1 : ∀ u ∈ news, u.oneCell' = true)
    (h63 : n + m ≤ maxLen) (hbytes : (n + m) * bytes ≤ 140737488355328) (hbase : base ≤ w.heap.size)
    (h : ∀ v' w', Qw w' base e size v' (n + m) (xs ++ news) → w.grownBy w' v.ownBlock → (v'.ownBlock = v.ownBlock ∨ v'.ownBlock = some w.heap.size) → wpList P ops Q rest (a.put o.dst v') w') : wpList P ops Q (o :: rest) a w := by
  refine wpList_plain hgd fun K hK => ?_
  obtain ⟨v', w', hr, h2, h3, h4⟩ := run_append_q (P := P) w base t o.type e i z size bytes ht hi hz hsize hby hzs hsz v n xs hown xv m news hsl h1 h63 hbytes hbase
  unfold Oper.wp execOp
  simp only [ho, resolve, invoke, builtin, Sem.run_bind, Sem.run_pure, Result.andThen_ok, List.map_toArray, List.map_cons, List.map_nil, hs, hx, hr]
  exact hK _ _ (h v' w' h2 h3 h4)
/-- The same at a step of a region that draws its order. -/
theorem step_append_q {ops : Array Oper} {o : Oper} {a : Act} {K : Act → World → Prop} {Q : Exit → Act → World → Prop} {E : Prop} (hgd : o.guard = none) (s x : Operand) (t : TypeId)
    (ho : o.op = .call { callee := .builtin .append, args := #[s, x], argTypes := #[t, t] })
    (base : Nat) (e : TypeId) (i : TypeInfo) (z : Value) (size bytes : Nat) (ht : P.underlying t = some (.slice e)) (hi : P.info? e = some i) (hz : i.zero = some z)
    (hsize : i.size = size) (hby : i.bytes = bytes) (hzs : z.cells.size = size) (hsz : 0 < size)
    (v : Value) (n : Nat) (xs : List Value) (hs : a.eval s = v) (hown : Qw w base e size v n xs)
    (xv : Value) (m : Nat) (news : List Value) (hx : a.eval x = xv) (hsl : Sl w size xv m news) (h1 : ∀ u ∈ news, u.oneCell' = true)
    (h63 : n + m ≤ maxLen) (hbytes : (n + m) * bytes ≤ 140737488355328) (hbase : base ≤ w.heap.size)
    (h : ∀ v' w', Qw w' base e size v' (n + m) (xs ++ news) → w.grownBy w' v.ownBlock → (v'.ownBlock = v.ownBlock ∨ v'.ownBlock = some w.heap.size) → K (a.put o.dst v') w') :
    if Region.wanted o (yielded ops a.tmps) = true then Oper.wp P o a w K Q else E := by
  have hw : Region.wanted o (yielded ops a.tmps) = true := by simp [Region.wanted, hgd]
  rw [if_pos hw]
  obtain ⟨v', w', hr, h2, h3, h4⟩ := run_append_q (P := P) w base t o.type e i z size bytes ht hi hz hsize hby hzs hsz v n xs hown xv m news hsl h1 h63 hbytes hbase
  unfold Oper.wp execOp
  simp only [ho, resolve, invoke, builtin, Sem.run_bind, Sem.run_pure, Result.andThen_ok, List.map_toArray, List.map_cons, List.map_nil, hs, hx, hr]
  exact h v' w' h2 h3 h4
end
/-- One element in a block of its own, as the translation lays it ahead of an append. -/
theorem Sl.boxed (w : World) (cs : Array Value) (e : TypeId) (k : Nat) (hk : cs.size = k) : Sl (w.alloc (.cells cs e)) k (.slice (some ⟨w.heap.size, 0, none⟩) 1 1) 1 cs.toList :=
  Sl.of_own (World.ownsRow_lit (base := 0) w cs 1 (Nat.zero_le _) (by unfold maxLen; omega) (by omega))
/-- A part of a slice. -/
theorem Sl.cut {w : World} {k n : Nat} {A : Option Addr} {c : Nat} {xs : List Value} (h : Sl w 1 (.slice A n c) n xs) (hk : k ≤ n) : Sl w 1 (.slice A k c) k (xs.take k) := by
  obtain ⟨A', c', e, h1, h2, h3, h4⟩ := h
  injection e with e1 _ e2
  subst e1 e2
  refine ⟨A, c, rfl, by omega, h2, by rw [List.length_take]; omega, fun hp => ?_⟩
  obtain ⟨b, off, rfl, hc⟩ := h4 (by rw [List.length_take] at hp; omega)
  exact ⟨b, off, rfl, fun j u hu => hc j u (by rw [List.getElem?_take] at hu; split at hu; exact hu; cases hu)⟩
theorem Sl.from {w : World} {k n : Nat} {A : Option Addr} {c : Nat} {xs : List Value} (h : Sl w 1 (.slice A n c) n xs) (hk : k ≤ n) : Sl w 1 (.slice (if c = k then A else A.map (·.add (k * 1))) (n - k) (c - k)) (n - k) (xs.drop k) := by
  obtain ⟨A', c', e, h1, h2, h3, h4⟩ := h
  injection e with e1 _ e2
  subst e1 e2
  refine ⟨_, c - k, rfl, by omega, by omega, by rw [List.length_drop]; omega, fun hp => ?_⟩
  rw [List.length_drop] at hp
  obtain ⟨b, off, rfl, hc⟩ := h4 (by omega)
  refine ⟨b, off + k, by rw [if_neg (by omega)]; simp [Addr.add_lit], fun j u hu => ?_⟩
  rw [List.getElem?_drop] at hu
  rw [Nat.add_assoc]
  exact hc _ u hu
theorem Qw.empty (w : World) (e : TypeId) : Qw (w.alloc (.cells #[] e)) w.heap.size e 1 (.slice (some ⟨w.heap.size, 0, none⟩) 0 0) 0 [] := by
  have := Qw.of_own (World.ownsRow_lit (base := w.heap.size) (e := e) (size := 1) w #[] 0 (Nat.le_refl _) (by unfold maxLen; omega) rfl)
  simpa using this
/-- A call hands back a slice of its own with these cells; nothing that was there has turned. -/
def RetQ (w : World) (t : TypeId) (k n : Nat) (cs : List Value) (e : Ending) (w' : World) : Prop :=
  ∃ u, e = .returned u ∧ Qw w' w.heap.size t k u n cs ∧ Below w.heap.size w w'
theorem Qw.emptyAt {W : World} {g base : Nat} {e : TypeId} (h : W.heap[g]? = some (.cells #[] e (0, 0))) (hb : base ≤ g) : Qw W base e 1 (.slice (some ⟨g, 0, none⟩) 0 0) 0 [] :=
  ⟨rfl, .inr ⟨g, 0, 0, #[], rfl, hb, h, Nat.le_refl _, by unfold maxLen; omega, by simp, by simp⟩⟩
theorem Sl.boxAt {W : World} {g : Nat} {e : TypeId} {x : Value} (h : W.heap[g]? = some (.cells #[x] e (0, 0))) : Sl W 1 (.slice (some ⟨g, 0, none⟩) 1 1) 1 [x] :=
  Sl.of_q (base := 0) (e := e) ⟨rfl, .inr ⟨g, 0, 1, #[x], rfl, Nat.zero_le _, h, Nat.le_refl _, by unfold maxLen; omega, by simp, by simp⟩⟩
theorem hp0 (w : World) (o : Obj) : (w.alloc o).heap[w.heap.size]? = some o := heap_alloc_new w o
theorem hp1 (w : World) (o p : Obj) : ((w.alloc o).alloc p).heap[w.heap.size]? = some o := (Below.heap_alloc _ _ _ (by simp)).trans (heap_alloc_new w o)
theorem hp2 (w : World) (o p : Obj) : ((w.alloc o).alloc p).heap[w.heap.size + 1]? = some p := by
  have := heap_alloc_new (w.alloc o) p
  simpa using this
theorem ints_one (zs : List Int) : ∀ u ∈ zs.map (Value.int .i64), u.oneCell' = true := by
  intro u hu; obtain ⟨z, _, rfl⟩ := List.mem_map.1 hu; rfl
end Go.Proofs.Ytnadeddkogapoaa
