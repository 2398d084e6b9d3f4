/- append of texts onto a row of texts that the call owns, and where the new row lies. -/
import Derived.Test.YthicdhnjincflaaDoorTxtS
import Derived.Test.YthicdhnjincflaaDoorAllB
import Derived.Deep.AppendLies
namespace Go.Proofs.YthicdhnjincflaaDoor
open Go.RowKit Go.Shelf Go.Lib
attribute [local go_sem] Oper.semAt_some

theorem append_place {P : Program} (w : World) (base : Nat) (t ty e : TypeId) (i : TypeInfo) (z : Value) (bytes : Nat) (ht : P.underlying t = some (.slice e)) (hi : P.info? e = some i) (hz : i.zero = some z)
    (hsize : i.size = 1) (hby : i.bytes = bytes) (hzs : z.cells.size = 1)
    (v : Value) (n : Nat) (xs : List Value) (hown : w.ownsRow base e 1 v n xs)
    (a : Addr) (m c : Nat) (news : List Value) (hl : news.length = m * 1) (hnews : ∀ j u, news[j]? = some u → w.cell? (a.add j) = some u) (h1 : ∀ u ∈ news, u.oneCell' = true)
    (h63 : n + m ≤ maxLen) (hbytes : (n + m) * bytes ≤ 140737488355328) (v' : Value) (w' : World) (hrun : (Builtin.append_ #[t, t] ty #[v, .slice (some a) m c]).run P w = .ok v' w') :
    v'.ownBlock = v.ownBlock ∨ ∀ k, v'.ownBlock = some k → w.heap.size ≤ k := by
  have hsmall : n + m ≤ 9223372036854775807 := by simp only [maxLen] at h63; omega
  subst hby
  rcases hown.2 with ⟨rfl, rfl⟩ | ⟨g, cap, cur, rfl, hbg, hg, hnc, hcm, hcs, htake⟩
  · have hx : xs = [] := List.eq_nil_of_length_eq_zero (by simpa using hown.1)
    subst hx
    obtain ⟨v1, w1, hr, h2, _⟩ := run_append_own (P := P) w w.heap.size t ty e i z 1 i.bytes ht hi hz hsize rfl hzs (by decide) _ _ _ (World.ownsRow_nil w w.heap.size e 1) a m c news hl hnews h1 h63 hbytes (Nat.le_refl _)
    rw [hr] at hrun
    cases hrun
    exact .inr fun k hk => (World.ownsRow.lt h2 k hk).1
  · by_cases hroom : n + m ≤ cap
    · have hr := run_append_room (P := P) w t ty e i ht hi g n cap cur hg a m c news (by rw [hsize]; exact hl) hnews h1 hroom (by rw [hsize, hl, hcs, ← Nat.add_mul]; exact Nat.mul_le_mul_right _ hroom)
      rw [hr] at hrun
      cases hrun
      exact .inl rfl
    · have holds : ∀ j u, xs[j]? = some u → w.cell? ((⟨g, 0, none⟩ : Addr).add j) = some u := hown.cells (g := g) rfl
      have hr := run_append_grow (P := P) w t ty e i z ht hi hz ⟨g, 0, none⟩ n cap xs (by rw [hsize]; exact hown.1) holds a m c news (by rw [hsize]; exact hl) hnews (by omega) (by omega) (growslice_fits (by omega) hbytes)
      rw [hr] at hrun
      cases hrun
      exact .inr fun k hk => by cases hk; exact Nat.le_refl _
theorem run_appendTs {P : Program} (base : Nat) (w : World) (t ty : TypeId) (ht : P.underlying t = some (.slice 9)) (hi : (P.info? 9).map (fun i => (i.zero, i.size, i.bytes)) = some (some (.string ⟨#[]⟩), 1, 16))
    (v : Value) (l : List ByteArray) (hown : OwnS base w v l)
    (ad : Addr) (m c : Nat) (news : List ByteArray) (hl : news.length = m) (hnews : ∀ (j : Nat) x, news[j]? = some x → w.cell? (ad.add j) = some (.string x))
    (h63 : l.length + m ≤ 1099511627776) (hbase : base ≤ w.heap.size) :
    ∃ v' w', (Builtin.append_ #[t, t] ty #[v, .slice (some ad) m c]).run P w = .ok v' w' ∧ OwnS base w' v' (l ++ news) ∧ w.grownBy w' v.ownBlock ∧ (v'.ownBlock = v.ownBlock ∨ ∀ k, v'.ownBlock = some k → w.heap.size ≤ k) := by
  obtain ⟨i0, hi0, hz0, hz1, hz2⟩ := info_parts hi
  have hpl := append_place w base t ty 9 i0 (.string ⟨#[]⟩) 16 ht hi0 hz0 hz1 hz2 rfl v l.length (l.map Value.string) hown ad m c (news.map Value.string) (by simp [hl]) (fun j u hu => by
    rw [List.getElem?_map] at hu
    cases hx : news[j]? with
    | none => rw [hx] at hu; cases hu
    | some x => rw [hx] at hu; cases hu; exact hnews j x hx) (by
    intro u hu
    obtain ⟨x, _, rfl⟩ := List.mem_map.1 hu
    rfl) (by unfold maxLen; omega) (by omega)
  obtain ⟨v', w', h1, h2, h3, _⟩ := run_append_own (P := P) w base t ty 9 i0 (.string ⟨#[]⟩) 1 16 ht hi0 hz0 hz1 hz2 rfl (by decide) v l.length (l.map Value.string) hown ad m c (news.map Value.string) (by simp [hl]) (fun j u hu => by
    rw [List.getElem?_map] at hu
    cases hx : news[j]? with
    | none => rw [hx] at hu; cases hu
    | some x => rw [hx] at hu; cases hu; exact hnews j x hx) (by
    intro u hu
    obtain ⟨x, _, rfl⟩ := List.mem_map.1 hu
    rfl) (by unfold maxLen; omega) (by omega) hbase
  refine ⟨v', w', h1, ?_, h3, hpl v' w' h1⟩
  unfold OwnS
  rw [List.map_append, List.length_append, hl]
  exact h2
/-- 'append(l, more..)' onto a row of texts -/
theorem wpList_appendTs {P : Program} {ops : Array Oper} {rest : List Oper} {o : Oper} {a : Act} {w : World} {Q : Exit → Act → World → Prop} (hgd : o.guard = none) (s x : Operand) (t : TypeId)
    (ho : o.op = .call { callee := .builtin .append, args := #[s, x], argTypes := #[t, t] })
    (base : Nat) (ht : P.underlying t = some (.slice 9)) (hi : (P.info? 9).map (fun i => (i.zero, i.size, i.bytes)) = some (some (.string ⟨#[]⟩), 1, 16))
    (v : Value) (l : List ByteArray) (hs : a.eval s = v) (hown : OwnS base w v l)
    (ad : Addr) (m c : Nat) (news : List ByteArray) (hx : a.eval x = .slice (some ad) m c) (hl : news.length = m) (hnews : ∀ (j : Nat) x, news[j]? = some x → w.cell? (ad.add j) = some (.string x))
    (h63 : l.length + m ≤ 1099511627776) (hbase : base ≤ w.heap.size)
    (h : ∀ v' w', OwnS base w' v' (l ++ news) → w.grownBy w' v.ownBlock → (v'.ownBlock = v.ownBlock ∨ ∀ k, v'.ownBlock = some k → w.heap.size ≤ k) → wpList P ops Q rest (a.put o.dst v') w') : wpList P ops Q (o :: rest) a w := by
  obtain ⟨v', w', hr, h2, h3, h4⟩ := run_appendTs (P := P) base w t o.type ht hi v l hown ad m c news hl hnews h63 hbase
  refine wpList_plain hgd fun K hK => ?_
  unfold Oper.wp execOp
  simp only [ho, resolve, invoke, builtin, Sem.run_bind, Sem.run_pure, Result.andThen_ok, List.map_toArray, List.map_cons, List.map_nil, hs, hx, hr]
  exact hK _ _ (h v' w' h2 h3 h4)
/-- the same, as one step of a region that draws its order -/
theorem step_appendTs {P : Program} {ops : Array Oper} {o : Oper} {a : Act} {w : World} {K : Act → World → Prop} {Q : Exit → Act → World → Prop} {E : Prop} (hw : Region.wanted o (yielded ops a.tmps) = true) (s x : Operand) (t : TypeId)
    (ho : o.op = .call { callee := .builtin .append, args := #[s, x], argTypes := #[t, t] })
    (base : Nat) (ht : P.underlying t = some (.slice 9)) (hi : (P.info? 9).map (fun i => (i.zero, i.size, i.bytes)) = some (some (.string ⟨#[]⟩), 1, 16))
    (v : Value) (l : List ByteArray) (hs : a.eval s = v) (hown : OwnS base w v l)
    (ad : Addr) (m c : Nat) (news : List ByteArray) (hx : a.eval x = .slice (some ad) m c) (hl : news.length = m) (hnews : ∀ (j : Nat) x, news[j]? = some x → w.cell? (ad.add j) = some (.string x))
    (h63 : l.length + m ≤ 1099511627776) (hbase : base ≤ w.heap.size)
    (hK : ∀ v' w', OwnS base w' v' (l ++ news) → w.grownBy w' v.ownBlock → (v'.ownBlock = v.ownBlock ∨ ∀ k, v'.ownBlock = some k → w.heap.size ≤ k) → K (a.put o.dst v') w') :
    if Region.wanted o (yielded ops a.tmps) = true then Oper.wp P o a w K Q else E := by
  rw [if_pos hw]
  obtain ⟨v', w', hr, h2, h3, h4⟩ := run_appendTs (P := P) base w t o.type ht hi v l hown ad m c news hl hnews h63 hbase
  unfold Oper.wp execOp
  simp only [ho, resolve, invoke, builtin, Sem.run_bind, Sem.run_pure, Result.andThen_ok, List.map_toArray, List.map_cons, List.map_nil, hs, hx, hr]
  exact hK _ _ h2 h3 h4
theorem one_at {P : Prop} {x y : ByteArray} {j : Nat} (h : [x][j]? = some y) (k : j = 0 → x = y → P) : P := by
  match j, h with
  | 0, h => exact k rfl (Option.some.inj h)
end Go.Proofs.YthicdhnjincflaaDoor
