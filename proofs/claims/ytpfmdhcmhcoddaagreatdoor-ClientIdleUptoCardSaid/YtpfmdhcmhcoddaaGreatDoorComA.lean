/- Contract of head.CommitteeRoot. -/
import Derived.Test.YtpfmdhcmhcoddaaGreatDoorPakA
namespace Go.Proofs.YtpfmdhcmhcoddaaGreatDoor
open Go.RowKit Go.Shelf Go.Lib
attribute [local go_sem] Oper.semAt_some

/-- does a text have five letters? -/
def five (s : ByteArray) : Bool := decide (s.size = 5)
/-- what a committee's root is -/
def commV (keys : List ByteArray) (sum : ByteArray) : Value :=
  if decide (keys.length = 16) && (five sum && keys.all five) then .tuple #[.string (shaB (rootB 4 (keys.map pack5) noughtB ++ pack5 sum)), .int .i64 0] else .tuple #[.string ⟨#[]⟩, .int .i64 130]
theorem commV_len {keys : List ByteArray} {sum : ByteArray} (h : keys.length ≠ 16) : commV keys sum = .tuple #[.string ⟨#[]⟩, .int .i64 130] := by
  unfold commV; rw [decide_eq_false h]; rfl
theorem commV_sum {keys : List ByteArray} {sum : ByteArray} (h : sum.size ≠ 5) : commV keys sum = .tuple #[.string ⟨#[]⟩, .int .i64 130] := by
  unfold commV five; rw [decide_eq_false h, Bool.false_and, Bool.and_false]; rfl
theorem commV_key {keys : List ByteArray} {sum x : ByteArray} (hx : x ∈ keys) (h : x.size ≠ 5) : commV keys sum = .tuple #[.string ⟨#[]⟩, .int .i64 130] := by
  have : keys.all five = false := List.all_eq_false.2 ⟨x, hx, by unfold five; simp [h]⟩
  unfold commV; rw [this, Bool.and_false, Bool.and_false]; rfl
theorem commV_good {keys : List ByteArray} {sum : ByteArray} (h1 : keys.length = 16) (h2 : sum.size = 5) (h3 : ∀ x ∈ keys, x.size = 5) : commV keys sum = .tuple #[.string (shaB (rootB 4 (keys.map pack5) noughtB ++ pack5 sum)), .int .i64 0] := by
  have : keys.all five = true := List.all_eq_true.2 (fun x hx => by unfold five; simp [h3 x hx])
  unfold commV five
  rw [show (fun s : ByteArray => decide (s.size = 5)) = five from rfl, this, decide_eq_true h1, decide_eq_true h2]; rfl
theorem packs_right {keys : List ByteArray} (h1 : keys.length = 16) (h3 : ∀ x ∈ keys, x.size = 5) : rightB (keys.map pack5) 4 = true := by
  unfold rightB
  rw [List.length_map, h1, Bool.and_eq_true, Bool.not_eq_true', List.any_eq_false]
  refine ⟨by decide, fun x hx => ?_⟩
  obtain ⟨y, hy, rfl⟩ := List.mem_map.1 hx
  unfold noChunk
  rw [pack5_size (h3 y hy)]; simp
theorem letters_two (a b : ByteArray) : lettersOf [a, b] = (a ++ b).data.toList := by
  unfold lettersOf
  rw [toList_append]; simp
theorem OwnS.new (w : World) (x : ByteArray) (base : Nat) (hb : base ≤ w.heap.size) : OwnS base (w.alloc (.cells #[.string x] 9)) (.slice (some ⟨w.heap.size, 0, none⟩) 1 1) [x] :=
  ⟨rfl, .inr ⟨w.heap.size, 1, #[.string x], rfl, hb, World.alloc_heap_new w _, Nat.le_refl _, by unfold maxLen; omega, rfl, rfl⟩⟩
theorem run_append_nothing {P : Program} (w : World) (t ty e : TypeId) (ht : P.underlying t = some (.slice e)) (hi : (P.info? e).map (fun i => (i.zero, i.size, i.bytes)) = some (some (.string ⟨#[]⟩), 1, 16)) (g n cap c : Nat) (h : n ≤ cap) :
    (Builtin.append_ #[t, t] ty #[.slice (some ⟨g, 0, none⟩) n cap, .slice none 0 c]).run P w = .ok (.slice (some ⟨g, 0, none⟩) n cap) w := by
  obtain ⟨i0, hi0, hz0, hz1, hz2⟩ := info_parts hi
  simp [Builtin.append_, run_underlying ht, sizeOf, typeInfo, hi0, Builtin.lenOf, h, Builtin.firstCells, storeCells]
/-- 'append(l, texts..)' onto a row of one, whatever the texts -/
theorem wpList_appendAny {P : Program} {ops : Array Oper} {rest : List Oper} {o : Oper} {a : Act} {w : World} {Q : Exit → Act → World → Prop} (hgd : o.guard = none) (s x : Operand) (t : TypeId)
    (ho : o.op = .call { callee := .builtin .append, args := #[s, x], argTypes := #[t, t] })
    (base : Nat) (ht : P.underlying t = some (.slice 9)) (hi : (P.info? 9).map (fun i => (i.zero, i.size, i.bytes)) = some (some (.string ⟨#[]⟩), 1, 16))
    (g n cap : Nat) (l : List ByteArray) (hs : a.eval s = .slice (some ⟨g, 0, none⟩) n cap) (hown : OwnS base w (.slice (some ⟨g, 0, none⟩) n cap) l)
    (xv : Value) (news : List ByteArray) (hx : a.eval x = xv) (hnews : Strs w xv news)
    (h63 : l.length + news.length ≤ 1099511627776) (hbase : base ≤ w.heap.size)
    (h : ∀ v' w', OwnS base w' v' (l ++ news) → w.grownBy w' (some g) → wpList P ops Q rest (a.put o.dst v') w') : wpList P ops Q (o :: rest) a w := by
  obtain ⟨p, c, rfl, hc, hcell⟩ := hnews
  cases hp : p with
  | some ad =>
    subst hp
    refine wpList_appendTs hgd s x t ho base ht hi _ l hs hown ad news.length c news hx rfl ?_ h63 hbase (fun v' w' h1 h2 _ => h v' w' h1 h2)
    intro j y hy
    rcases hcell with h0 | ⟨bk, o', he, hk, hcl⟩
    · rw [h0] at hy; cases hy
    · cases he
      have ea : (⟨bk, o', none⟩ : Addr).add j = ⟨bk, o' + j, none⟩ := by unfold Addr.add; split <;> simp_all
      rw [ea]; exact hcl j y hy
  | none =>
    subst hp
    have h0 : news = [] := by
      rcases hcell with h0 | ⟨_, _, he, _⟩
      · exact h0
      · cases he
    subst h0
    have hr := run_append_nothing (P := P) w t o.type 9 ht hi g n cap c (by
      obtain ⟨p', c', hf⟩ := hown.form
      have := hown.cap
      cases hf
      exact this)
    refine wpList_plain hgd fun K hK => ?_
    unfold Oper.wp execOp
    simp only [ho, resolve, invoke, builtin, Sem.run_bind, Sem.run_pure, Result.andThen_ok, List.map_toArray, List.map_cons, List.map_nil, hs, hx]
    rw [show (([] : List ByteArray).length) = 0 from rfl, hr]
    exact hK _ _ (h _ w (by rw [List.append_nil]; exact hown) ⟨rfl, rfl, rfl, Nat.le_refl _, fun _ _ _ => rfl⟩)
set_option maxRecDepth 100000 in
set_option maxHeartbeats 6400000 in
theorem commRoot_any (v : Value) (keys : List ByteArray) (sum : ByteArray) (w : World) (hv : Strs w v keys) (hN : keys.length ≤ 1048576) (hK : KTab w) :
    Calls Tryz.prog 61 #[.agg #[v, .string sum]] w fun e w' => e = .returned (commV keys sum) ∧ Below w.heap.size w w' := by
  have HV := Lib.hid hv
  obtain ⟨p, c, rfl, -⟩ := hv
  have HL1 := Lib.hid (fun (h : keys.length ≠ 16) => commV_len (sum := sum) h)
  have HL2 := Lib.hid (fun (h : sum.size ≠ 5) => commV_sum (keys := keys) h)
  have HL3 := Lib.hid (fun (x : ByteArray) (hx : x ∈ keys) (h : x.size ≠ 5) => commV_key (sum := sum) hx h)
  have HL4 := Lib.hid (fun h1 h2 h3 => commV_good (keys := keys) (sum := sum) h1 h2 h3)
  have HL5 := Lib.hid (fun h1 h3 => packs_right (keys := keys) h1 h3)
  obtain ⟨R, hR⟩ : ∃ R, commV keys sum = R := ⟨_, rfl⟩
  rw [hR] at HL1 HL2 HL3 HL4 ⊢
  obtain ⟨n, hn⟩ : ∃ n, keys.length = n := ⟨_, rfl⟩
  rw [hn] at hN HL1 HL4 HL5 HV ⊢
  have HN := Lib.hid hn
  have HK := Lib.hid hK
  clear hR hn hK
  have hb0 : Below w.heap.size w (w.alloc (.cells #[.slice p n c, .string sum] 42)) := (Below.refl w.heap.size w).alloc (Nat.le_refl _) _
  have HB0 := Lib.hid hb0
  clear hb0
  go_enter Tryz.func61, Tryz.ntmps61
  go_wp2_with (at_builtin; refine wpList_appendAny rfl _ _ 27 rfl (w.heap.size + 1) Tryz.underlying27 infoStr (w.heap.size + 1) 1 1 [sum] rfl ?c0 (.slice p n c) keys rfl ?c1 ?c2 ?c3 ?_)
  case c0 =>
    have := OwnS.new (w.alloc (.cells #[.slice p n c, .string sum] 42)) sum (w.heap.size + 1) (by simp)
    rw [World.size_alloc] at this
    exact this
  case c1 => exact (HV.out.below HB0.out).below ((Below.refl _ _).alloc (Nat.le_refl _) _)
  case c2 => rw [HN.out]; simp; omega
  case c3 => simp
  intro v2 wa ho2 hg2
  have hb2 : Below (w.heap.size + 1) (w.alloc (.cells #[.slice p n c, .string sum] 42)) wa := ((Below.refl _ _).alloc (by simp) _).grown hg2 (by simp) (fun r e => by cases e; exact Nat.le_refl _)
  have hba : Below w.heap.size w wa := HB0.out.trans (hb2.mono (by omega))
  have hlt : w.heap.size + 1 ≤ wa.heap.size := by have := hb2.size; simpa using this
  have q0 : wa.cell? ⟨w.heap.size, 0, none⟩ = some (.slice p n c) := (hb2.cell (p := ⟨w.heap.size, 0, none⟩) (Nat.lt_succ_self _)).trans (by simp)
  have ho2' : OwnS (w.heap.size + 1) wa v2 (sum :: keys) := ho2
  obtain ⟨g, ca, hva, hg0, hg1, hgc, -⟩ := ho2'.opened (by simp)
  have hla : (sum :: keys).length = n + 1 := by rw [List.length_cons, HN.out]
  obtain ⟨all, hall⟩ : ∃ all, sum :: keys = all := ⟨_, rfl⟩
  rw [hall] at hla hgc hva
  rw [hla] at hva
  subst hva
  have HBA := Lib.hid hba
  have HGC := Lib.hid hgc
  have HLA := Lib.hid hla
  have HALL := Lib.hid hall
  have HQ0 := Lib.hid (fun W (hb : Below wa.heap.size wa W) => (hb.cell (p := ⟨w.heap.size, 0, none⟩) (show w.heap.size < wa.heap.size by omega)).trans q0)
  clear ho2 ho2' hg2 hb2 hba hgc hla hall q0
  go_wp2_with fail
  go_loopw [4, 16] (fun v i wr => ∃ j : Nat, j ≤ n + 1 ∧ i = .int .i64 j ∧ Aside (∀ k x, k < j → all[k]? = some x → x.size = 5) ∧ Aside (OwnS wa.heap.size wr v ((all.take j).map pack5)) ∧ Aside (Below wa.heap.size wa wr)) (fun _ i _ => n + 1 - (RowKit.intOf i).toNat)
  case atStart => exact ⟨0, Nat.zero_le _, rfl, (fun _ _ h => absurd h (Nat.not_lt_zero _)), OwnS.nil _ _, Below.refl _ _⟩
  case round =>
    obtain ⟨j, hj, rfl, HF, HO, HB⟩ := hrel
    by_cases hlj : j < n + 1
    · obtain ⟨x, hx⟩ : ∃ x, all[j]? = some x := ⟨_, List.getElem?_eq_getElem (by rw [HLA.out]; exact hlj)⟩
      have c0 : wr.cell? ⟨g, j, none⟩ = some (.string x) := (HB.out.cell (p := ⟨g, j, none⟩) hg1).trans (HGC.out j x hx)
      have g1 : (0 : Int) ≤ j := by omega
      have g2 : (j : Int) < (n : Int) + 1 := by omega
      have HX := Lib.hid hx
      by_cases h5 : x.size = 5
      · have g5 : ((x.size : Int) != 5) = false := by rw [bne_eq_false_iff_eq]; omega
        have hp := fun W => pack5_any x W h5
        have hts : (all.take (j + 1)).map pack5 = (all.take j).map pack5 ++ [pack5 x] := by rw [List.take_add_one, hx]; simp
        have hll : ((all.take j).map pack5).length = j := by rw [List.length_map, List.length_take, HLA.out]; omega
        obtain ⟨L, hL⟩ : ∃ L, (all.take j).map pack5 = L := ⟨_, rfl⟩
        have ho := HO.out
        rw [hL] at hts hll ho
        obtain ⟨pv, cv, hv⟩ := ho.form
        rw [hll] at hv
        subst hv
        have H1 := Lib.hid hp
        have HTS := Lib.hid hts
        have HLL := Lib.hid hll
        have HO1 := Lib.hid ho
        have H5 := Lib.hid h5
        clear hp hts hll ho hL hx HO h5
        go_wp2_with fail
        refine (H1.out _).mono ?_
        rintro e w3 ⟨v3, rfl, ho3, hb3⟩
        obtain ⟨g3, c3, hv3, -, hg3, hc3, -⟩ := ho3.opened (by simp)
        simp only [List.length_singleton] at hv3
        subst hv3
        have HO2 := Lib.hid (HO1.out.after hb3)
        have HB3 := Lib.hid (HB.out.trans (hb3.mono HB.out.size))
        have HC3 := Lib.hid hc3
        clear ho3 hb3 hc3 HO1 HB c0
        go_wp2_with (at_builtin; refine wpList_appendTs rfl _ _ 27 rfl wa.heap.size Tryz.underlying27 infoStr _ L rfl HO2.out ⟨g3, 0, none⟩ 1 c3 [pack5 x] rfl ?d0 ?d1 ?d2 ?d3 ?_)
        case d0 => rfl
        case d1 => exact fun k y hy => by rw [addr_add]; exact HC3.out k y hy
        case d2 => rw [HLL.out]; omega
        case d3 => exact HB3.out.size
        intro v4 w4 ho4 hg4 _
        have hb4 : Below wa.heap.size wa w4 := HB3.out.grown hg4 HB3.out.size (fun r e => (HO2.out.lt r e).1)
        rw [← HTS.out] at ho4
        have HO4 := Lib.hid ho4
        have HB4 := Lib.hid hb4
        clear ho4 hg4 hb4 HO2 HB3 HC3
        go_wp2
        go_roundw
        case rel => exact ⟨j + 1, by omega, by go_num, (fun k y hk hy => by
          rcases Nat.lt_succ_iff_lt_or_eq.1 hk with h | rfl
          · exact HF.out k y h hy
          · rw [HX.out] at hy; cases hy; exact H5.out), HO4.out, HB4.out⟩
        case measure => simp [RowKit.intOf]; omega
      · have g5 : ((x.size : Int) != 5) = true := by rw [bne_iff_ne]; omega
        have hr : R = .tuple #[.string ⟨#[]⟩, .int .i64 130] := by
          have hm := List.mem_of_getElem? hx
          rw [← HALL.out] at hm
          rcases List.mem_cons.1 hm with h | h
          · subst h
            exact HL2.out h5
          · exact HL3.out x h h5
        subst hr
        clear hx HX
        go_wp2
        go_ret2
        exact ⟨rfl, HBA.out.trans (HB.out.mono HBA.out.size)⟩
    · obtain rfl : j = n + 1 := by omega
      have hq := HQ0.out wr HB.out
      by_cases h16 : n = 16
      · subst h16
        have hall5 : ∀ x ∈ all, x.size = 5 := fun x hx => by
          obtain ⟨k, hk⟩ := List.mem_iff_getElem?.1 hx
          exact HF.out k x (by have := (List.getElem?_eq_some_iff.1 hk).1; rw [HLA.out] at this; exact this) hk
        have hs5 : sum.size = 5 := hall5 sum (by rw [← HALL.out]; simp)
        have hk5 : ∀ x ∈ keys, x.size = 5 := fun x hx => hall5 x (by rw [← HALL.out]; simp [hx])
        have hr := HL4.out rfl hs5 hk5
        have hrb := HL5.out rfl hk5
        have ho := HO.out
        rw [List.take_of_length_le (by rw [HLA.out]; omega), ← HALL.out, List.map_cons] at ho
        obtain ⟨g4, c4, hv4, -, hg4, hc4, -⟩ := ho.opened (by simp)
        have hll : (pack5 sum :: List.map pack5 keys).length = 17 := by rw [List.length_cons, List.length_map, HN.out]
        rw [hv4, hll] at ho
        have hcp : 17 ≤ c4 := by have := ho.cap; rw [hll] at this; exact this
        rw [hll] at hv4
        have hst : Strs wr (.slice (some ⟨g4, 1, none⟩) 16 (c4 - 1)) (keys.map pack5) := ⟨some ⟨g4, 1, none⟩, c4 - 1, by rw [List.length_map, HN.out], by rw [List.length_map, HN.out]; omega, .inr ⟨g4, 1, rfl, hg4, fun k y hy => hc4 (1 + k) y (by
          rw [Nat.add_comm, List.getElem?_cons_succ]
          exact hy)⟩⟩
        have hroot := sszRoot_any _ (keys.map pack5) 4 wr hst (by omega) (by rw [List.length_map, HN.out]; omega) (fun x hx => by
          obtain ⟨y, hy, rfl⟩ := List.mem_map.1 hx
          rw [pack5_size (hk5 y hy)]; omega) (HK.out.below (HBA.out.trans (HB.out.mono HBA.out.size)))
        rw [hrb] at hroot
        simp only [if_true] at hroot
        have h0 : wr.cell? ⟨g4, 0, none⟩ = some (.string (pack5 sum)) := hc4 0 _ rfl
        have hps := pack5_size hs5
        obtain ⟨rt, hrt⟩ : ∃ rt, rootB 4 (keys.map pack5) noughtB = rt := ⟨_, rfl⟩
        obtain ⟨ps, hpse⟩ : ∃ ps, pack5 sum = ps := ⟨_, rfl⟩
        have hrs : rt.size = 32 := by
          rw [← hrt]
          exact rootB_size 4 _ _ (fun x hx => by
            obtain ⟨y, hy, rfl⟩ := List.mem_map.1 hx
            exact pack5_size (hk5 y hy)) noughtB_size
        rw [hrt] at hroot hr
        rw [hpse] at hr h0 hps
        subst hv4
        have HROOT := Lib.hid hroot
        have HBR := Lib.hid (HBA.out.trans (HB.out.mono HBA.out.size))
        have HSUM := Lib.hid (fun v W (h : Strs W v [rt, ps]) (hk : KTab W) => (show Calls Tryz.prog 116 #[v] W fun e w' => e = .returned (.string (shaB (rt ++ ps))) ∧ Below W.heap.size W w' from by
          have := shaSum_any v [rt, ps] W h (by simp) (by rw [letters_two, toList_append, List.length_append, show rt.data.toList.length = rt.size from rfl, show ps.data.toList.length = ps.size from rfl]; omega) hk
          rw [letters_two] at this
          exact this))
        obtain ⟨fin, hfin⟩ : ∃ fin, shaB (rt ++ ps) = fin := ⟨_, rfl⟩
        rw [hfin] at hr HSUM
        subst hr
        have g7 : (17 : Int) ≤ c4 := by omega
        have g8 : 1 ≤ c4 := by omega
        have HRT := Lib.hid hrt
        clear hall5 hs5 hk5 hrb ho hll hst hroot hc4 hrt hpse hfin HL1 HL2 HL3 HL4 HL5 HO HF HQ0 HGC hps hrs HB
        go_wp2_with fail
        refine HROOT.out.mono ?_
        rintro e w5 ⟨rfl, hb5⟩
        have c0 : w5.cell? ⟨g4, 0, none⟩ = some (.string ps) := (hb5.cell (p := ⟨g4, 0, none⟩) hg4).trans h0
        have HB5 := Lib.hid (HBR.out.trans (hb5.mono HBR.out.size))
        clear hb5 h0
        go_wp2_with fail
        refine (HSUM.out _ _ (strs_new w5 [rt, ps] 2 rfl) ((HK.out.below HB5.out).below ((Below.refl _ _).alloc (Nat.le_refl _) _))).mono ?_
        rintro e w6 ⟨rfl, hb6⟩
        have HB6 := Lib.hid ((HB5.out.alloc HB5.out.size _).trans (hb6.mono (by have := HB5.out.size; simp; omega)))
        clear hb6
        go_wp2
        go_ret2
        exact ⟨rfl, HB6.out⟩
      · have g5 : ((n : Int) != 16) = true := by rw [bne_iff_ne]; omega
        have hr := HL1.out h16
        subst hr
        go_wp2
        go_ret2
        exact ⟨rfl, HBA.out.trans (HB.out.mono HBA.out.size)⟩
end Go.Proofs.YtpfmdhcmhcoddaaGreatDoor
