/- The walk of HeadRoots, and what opens a Light and a committee. -/
import Derived.Test.YtfbopnebfdkhdaaDoorComB
import Derived.Test.YtfbopnebfdkhdaaDoorHonL
namespace Go.Proofs.YtfbopnebfdkhdaaDoor
open Go.RowKit Go.Shelf Go.Lib
attribute [local go_sem] Oper.semAt_some

theorem commV_form (keys : List ByteArray) (sum : ByteArray) : ∃ (s : ByteArray) (e : Int), commV keys sum = .tuple #[.string s, .int .i64 e] := by
  unfold commV
  split
  · exact ⟨_, _, rfl⟩
  · exact ⟨_, _, rfl⟩
theorem roots_cells (n m : Nat) (a b c d e : ByteArray) (k : Nat) (p : Option Addr) (l cp : Nat) (pk : Option Addr) (lk ck : Nat) (su : ByteArray) (w : World) : Below w.heap.size w ((w.alloc (.cells #[.int .u64 n, .int .u64 m, .string a, .string b, .string c, .string d, .string e, .int .u64 k, .slice p l cp] 37)).alloc (.cells #[.slice pk lk ck, .string su] 44)) ∧ w.heap.size + 1 < ((w.alloc (.cells #[.int .u64 n, .int .u64 m, .string a, .string b, .string c, .string d, .string e, .int .u64 k, .slice p l cp] 37)).alloc (.cells #[.slice pk lk ck, .string su] 44)).heap.size ∧ ∀ W, Below ((w.alloc (.cells #[.int .u64 n, .int .u64 m, .string a, .string b, .string c, .string d, .string e, .int .u64 k, .slice p l cp] 37)).alloc (.cells #[.slice pk lk ck, .string su] 44)).heap.size ((w.alloc (.cells #[.int .u64 n, .int .u64 m, .string a, .string b, .string c, .string d, .string e, .int .u64 k, .slice p l cp] 37)).alloc (.cells #[.slice pk lk ck, .string su] 44)) W → W.cell? ⟨w.heap.size, 0, none⟩ = some (.int .u64 n) ∧ W.cell? ⟨w.heap.size, 1, none⟩ = some (.int .u64 m) ∧ W.cell? ⟨w.heap.size, 2, none⟩ = some (.string a) ∧ W.cell? ⟨w.heap.size, 3, none⟩ = some (.string b) ∧ W.cell? ⟨w.heap.size, 4, none⟩ = some (.string c) ∧ W.cell? ⟨w.heap.size, 5, none⟩ = some (.string d) ∧ W.cell? ⟨w.heap.size, 6, none⟩ = some (.string e) ∧ W.cell? ⟨w.heap.size, 7, none⟩ = some (.int .u64 k) ∧ W.cell? ⟨w.heap.size, 8, none⟩ = some (.slice p l cp) ∧ W.cell? ⟨w.heap.size + 1, 0, none⟩ = some (.slice pk lk ck) ∧ W.cell? ⟨w.heap.size + 1, 1, none⟩ = some (.string su) := by
  have hk : w.heap.size + 1 < ((w.alloc (.cells #[.int .u64 n, .int .u64 m, .string a, .string b, .string c, .string d, .string e, .int .u64 k, .slice p l cp] 37)).alloc (.cells #[.slice pk lk ck, .string su] 44)).heap.size := by simp
  have hwb : Below w.heap.size w ((w.alloc (.cells #[.int .u64 n, .int .u64 m, .string a, .string b, .string c, .string d, .string e, .int .u64 k, .slice p l cp] 37)).alloc (.cells #[.slice pk lk ck, .string su] 44)) := ((Below.refl w.heap.size w).alloc (Nat.le_refl _) _).alloc (by simp) _
  have b1 : Below (w.alloc (.cells #[.int .u64 n, .int .u64 m, .string a, .string b, .string c, .string d, .string e, .int .u64 k, .slice p l cp] 37)).heap.size (w.alloc (.cells #[.int .u64 n, .int .u64 m, .string a, .string b, .string c, .string d, .string e, .int .u64 k, .slice p l cp] 37)) ((w.alloc (.cells #[.int .u64 n, .int .u64 m, .string a, .string b, .string c, .string d, .string e, .int .u64 k, .slice p l cp] 37)).alloc (.cells #[.slice pk lk ck, .string su] 44)) := (Below.refl _ _).alloc (Nat.le_refl _) _
  have c0 : ∀ j u, [Value.int .u64 n, .int .u64 m, .string a, .string b, .string c, .string d, .string e, .int .u64 k, .slice p l cp][j]? = some u → ((w.alloc (.cells #[.int .u64 n, .int .u64 m, .string a, .string b, .string c, .string d, .string e, .int .u64 k, .slice p l cp] 37)).alloc (.cells #[.slice pk lk ck, .string su] 44)).cell? ⟨w.heap.size, j, none⟩ = some u := fun j u h => by
    refine (b1.cell (p := ⟨w.heap.size, j, none⟩) (by simp)).trans ?_
    rw [World.cell?_alloc_mark]; simpa using h
  have c1 : ∀ j u, [Value.slice pk lk ck, .string su][j]? = some u → ((w.alloc (.cells #[.int .u64 n, .int .u64 m, .string a, .string b, .string c, .string d, .string e, .int .u64 k, .slice p l cp] 37)).alloc (.cells #[.slice pk lk ck, .string su] 44)).cell? ⟨w.heap.size + 1, j, none⟩ = some u := fun j u h => by
    rw [show w.heap.size + 1 = (w.alloc (.cells #[.int .u64 n, .int .u64 m, .string a, .string b, .string c, .string d, .string e, .int .u64 k, .slice p l cp] 37)).heap.size from by simp, World.cell?_alloc_mark]; simpa using h
  exact ⟨hwb, hk, fun W h => ⟨(h.cell (p := ⟨w.heap.size, 0, none⟩) (by dsimp only; omega)).trans (c0 0 _ rfl), (h.cell (p := ⟨w.heap.size, 1, none⟩) (by dsimp only; omega)).trans (c0 1 _ rfl), (h.cell (p := ⟨w.heap.size, 2, none⟩) (by dsimp only; omega)).trans (c0 2 _ rfl), (h.cell (p := ⟨w.heap.size, 3, none⟩) (by dsimp only; omega)).trans (c0 3 _ rfl), (h.cell (p := ⟨w.heap.size, 4, none⟩) (by dsimp only; omega)).trans (c0 4 _ rfl), (h.cell (p := ⟨w.heap.size, 5, none⟩) (by dsimp only; omega)).trans (c0 5 _ rfl), (h.cell (p := ⟨w.heap.size, 6, none⟩) (by dsimp only; omega)).trans (c0 6 _ rfl), (h.cell (p := ⟨w.heap.size, 7, none⟩) (by dsimp only; omega)).trans (c0 7 _ rfl), (h.cell (p := ⟨w.heap.size, 8, none⟩) (by dsimp only; omega)).trans (c0 8 _ rfl), (h.cell (p := ⟨w.heap.size + 1, 0, none⟩) hk).trans (c1 0 _ rfl), (h.cell (p := ⟨w.heap.size + 1, 1, none⟩) hk).trans (c1 1 _ rfl)⟩⟩
set_option maxRecDepth 100000 in
set_option maxHeartbeats 6400000 in
theorem roots_walk (n m : Nat) (a b c d e : ByteArray) (k : Nat) (p : Option Addr) (l cp : Nat) (pk : Option Addr) (lk ck : Nat) (su : ByteArray) (s1 s2 s3 : ByteArray) (e1 e2 e3 : Int) (hB : Bool) (w : World) (hK : KTab w)
    (h1 : ∀ W, Below w.heap.size w W → Calls Tryd.prog 11 #[.agg #[.int .u64 n, .int .u64 m, .string a, .string b, .string c]] W fun x w' => x = .returned (.tuple #[.string s1, .int .i64 e1]) ∧ Below W.heap.size W w')
    (h2 : ∀ W, Below w.heap.size w W → Calls Tryd.prog 18 #[.agg #[.int .u64 n, .int .u64 m, .string a, .string b, .string c]] W fun x w' => x = .returned (.tuple #[.string s1, .int .i64 e1]) ∧ Below W.heap.size W w')
    (h3 : ∀ W, Below w.heap.size w W → Calls Tryd.prog 19 #[.agg #[.string d, .string e, .int .u64 k]] W fun x w' => x = .returned (.tuple #[.string s2, .int .i64 e2]) ∧ Below W.heap.size W w')
    (h4 : ∀ W, Below w.heap.size w W → Calls Tryd.prog 15 #[.agg #[.string d, .string e, .int .u64 k]] W fun x w' => x = .returned (.tuple #[.string s2, .int .i64 e2]) ∧ Below W.heap.size W w')
    (h5 : ∀ W, Below w.heap.size w W → Calls Tryd.prog 20 #[.agg #[.slice pk lk ck, .string su]] W fun x w' => x = .returned (.tuple #[.string s3, .int .i64 e3]) ∧ Below W.heap.size W w')
    (h6 : ∀ W, Below w.heap.size w W → Calls Tryd.prog 21 #[.agg #[.slice pk lk ck, .string su]] W fun x w' => x = .returned (.tuple #[.string s3, .int .i64 e3]) ∧ Below W.heap.size W w')
    (h7 : ∀ W, Below w.heap.size w W → Calls Tryd.prog 14 #[.agg #[.int .u64 n, .int .u64 m, .string a, .string b, .string c, .string d, .string e, .int .u64 k, .slice p l cp]] W fun x w' => x = .returned (.bool hB) ∧ Below W.heap.size W w')
    (h8 : ∀ W, Below w.heap.size w W → Calls Tryd.prog 22 #[.agg #[.int .u64 n, .int .u64 m, .string a, .string b, .string c, .string d, .string e, .int .u64 k, .slice p l cp]] W fun x w' => x = .returned (.bool hB) ∧ Below W.heap.size W w') :
    Calls Tryd.prog 5 #[.agg #[.int .u64 n, .int .u64 m, .string a, .string b, .string c, .string d, .string e, .int .u64 k, .slice p l cp], .agg #[.slice pk lk ck, .string su]] w fun x w' => x = .returned (.bool true) ∧ Below w.heap.size w w' := by
  have H1 := Lib.hid h1
  have H2 := Lib.hid h2
  have H3 := Lib.hid h3
  have H4 := Lib.hid h4
  have H5 := Lib.hid h5
  have H6 := Lib.hid h6
  have HH1 := Lib.hid h7
  have HH2 := Lib.hid h8
  have HK := Lib.hid hK
  have hcl := roots_cells n m a b c d e k p l cp pk lk ck su w
  clear h1 h2 h3 h4 h5 h6 h7 h8 hK
  go_enter Tryd.func5, Tryd.ntmps5
  go_wp2_with fail
  obtain ⟨wb, hwb⟩ : ∃ wb, ((w.alloc (.cells #[.int .u64 n, .int .u64 m, .string a, .string b, .string c, .string d, .string e, .int .u64 k, .slice p l cp] 37)).alloc (.cells #[.slice pk lk ck, .string su] 44)) = wb := ⟨_, rfl⟩
  rw [hwb] at hcl ⊢
  clear hwb
  obtain ⟨hb, hk, hS⟩ := hcl
  have HWB := Lib.hid hb
  have HSS := Lib.hid hS
  clear hb hS
  refine (shown13_any wb (HK.out.below HWB.out)).mono ?_
  rintro z w1 ⟨rfl, b1⟩
  obtain ⟨q0, q1, q2, q3, q4, q5, q6, q7, q8, q9, q10⟩ := HSS.out w1 b1
  go_wp2_with fail
  refine (H1.out _ (HWB.out.trans (b1.mono HWB.out.size))).mono ?_
  rintro z w2 ⟨rfl, hb2⟩
  have b2 : Below wb.heap.size wb w2 := b1.trans (hb2.mono b1.size)
  clear hb2 b1 q0 q1 q2 q3 q4 q5 q6 q7 q8 q9 q10
  obtain ⟨q0, q1, q2, q3, q4, q5, q6, q7, q8, q9, q10⟩ := HSS.out w2 b2
  go_wp2_with fail
  refine (H2.out _ (HWB.out.trans (b2.mono HWB.out.size))).mono ?_
  rintro z w3 ⟨rfl, hb3⟩
  have b3 : Below wb.heap.size wb w3 := b2.trans (hb3.mono b2.size)
  clear hb3 b2 q0 q1 q2 q3 q4 q5 q6 q7 q8 q9 q10
  obtain ⟨q0, q1, q2, q3, q4, q5, q6, q7, q8, q9, q10⟩ := HSS.out w3 b3
  go_wp2_with fail
  refine (H3.out _ (HWB.out.trans (b3.mono HWB.out.size))).mono ?_
  rintro z w4 ⟨rfl, hb4⟩
  have b4 : Below wb.heap.size wb w4 := b3.trans (hb4.mono b3.size)
  clear hb4 b3 q0 q1 q2 q3 q4 q5 q6 q7 q8 q9 q10
  obtain ⟨q0, q1, q2, q3, q4, q5, q6, q7, q8, q9, q10⟩ := HSS.out w4 b4
  go_wp2_with fail
  refine (H4.out _ (HWB.out.trans (b4.mono HWB.out.size))).mono ?_
  rintro z w5 ⟨rfl, hb5⟩
  have b5 : Below wb.heap.size wb w5 := b4.trans (hb5.mono b4.size)
  clear hb5 b4 q0 q1 q2 q3 q4 q5 q6 q7 q8 q9 q10
  obtain ⟨q0, q1, q2, q3, q4, q5, q6, q7, q8, q9, q10⟩ := HSS.out w5 b5
  go_wp2_with fail
  refine (H5.out _ (HWB.out.trans (b5.mono HWB.out.size))).mono ?_
  rintro z w6 ⟨rfl, hb6⟩
  have b6 : Below wb.heap.size wb w6 := b5.trans (hb6.mono b5.size)
  clear hb6 b5 q0 q1 q2 q3 q4 q5 q6 q7 q8 q9 q10
  obtain ⟨q0, q1, q2, q3, q4, q5, q6, q7, q8, q9, q10⟩ := HSS.out w6 b6
  go_wp2_with fail
  refine (H6.out _ (HWB.out.trans (b6.mono HWB.out.size))).mono ?_
  rintro z w7 ⟨rfl, hb7⟩
  have b7 : Below wb.heap.size wb w7 := b6.trans (hb7.mono b6.size)
  clear hb7 b6 q0 q1 q2 q3 q4 q5 q6 q7 q8 q9 q10
  obtain ⟨q0, q1, q2, q3, q4, q5, q6, q7, q8, q9, q10⟩ := HSS.out w7 b7
  have b8 : Below wb.heap.size wb w7.drew := b7.drew
  clear b7 q0 q1 q2 q3 q4 q5 q6 q7 q8 q9 q10
  go_wp2_with fail
  refine wp_region_held_drew (S := (fun W => W.cell? ⟨w.heap.size, 0, none⟩ = some (.int .u64 n) ∧ W.cell? ⟨w.heap.size, 1, none⟩ = some (.int .u64 m) ∧ W.cell? ⟨w.heap.size, 2, none⟩ = some (.string a) ∧ W.cell? ⟨w.heap.size, 3, none⟩ = some (.string b) ∧ W.cell? ⟨w.heap.size, 4, none⟩ = some (.string c) ∧ W.cell? ⟨w.heap.size, 5, none⟩ = some (.string d) ∧ W.cell? ⟨w.heap.size, 6, none⟩ = some (.string e) ∧ W.cell? ⟨w.heap.size, 7, none⟩ = some (.int .u64 k) ∧ W.cell? ⟨w.heap.size, 8, none⟩ = some (.slice p l cp) ∧ W.cell? ⟨w.heap.size + 1, 0, none⟩ = some (.slice pk lk ck) ∧ W.cell? ⟨w.heap.size + 1, 1, none⟩ = some (.string su))) (by kernel_rfl) (HSS.out _ b8) (fun hHeld => ?_)
  refine wpAnyH_take (i := 0) (v := ?_) rfl (by kernel_rfl) (by kernel_rfl) (by kernel_rfl) (fun _ _ _ h => h) (.inl ⟨by rfl, ?_⟩) (by assumption) ?_
  rotate_left 1
  · intro w0 hSw
    go_simp <;> with_reducible rfl
  try simp only [Act.put, List.getElem_toArray, List.getElem_cons_zero, List.setIfInBounds_toArray, List.set_cons_zero, List.set_cons_succ]
  refine wpAnyH_take (i := 1) (v := ?_) rfl (by kernel_rfl) (by kernel_rfl) (by kernel_rfl) (fun _ _ _ h => h) (.inl ⟨by rfl, ?_⟩) (by assumption) ?_
  rotate_left 1
  · intro w0 hSw
    go_simp <;> with_reducible rfl
  try simp only [Act.put, List.getElem_toArray, List.getElem_cons_zero, List.getElem_cons_succ, List.setIfInBounds_toArray, List.set_cons_zero, List.set_cons_succ]
  refine wpAnyH_take (i := 2) (v := ?_) rfl (by kernel_rfl) (by kernel_rfl) (by kernel_rfl) (fun _ _ _ h => h) (.inl ⟨by rfl, ?_⟩) (by assumption) ?_
  rotate_left 1
  · intro w0 hSw
    go_simp <;> with_reducible rfl
  try simp only [Act.put, List.getElem_toArray, List.getElem_cons_zero, List.getElem_cons_succ, List.setIfInBounds_toArray, List.set_cons_zero, List.set_cons_succ]
  refine wpAnyH_take (i := 3) (v := ?_) rfl (by kernel_rfl) (by kernel_rfl) (by kernel_rfl) (fun _ _ _ h => h) (.inl ⟨by rfl, ?_⟩) (by assumption) ?_
  rotate_left 1
  · intro w0 hSw
    go_simp <;> with_reducible rfl
  try simp only [Act.put, List.getElem_toArray, List.getElem_cons_zero, List.getElem_cons_succ, List.setIfInBounds_toArray, List.set_cons_zero, List.set_cons_succ]
  refine wpAnyH_take (i := 4) (v := ?_) rfl (by kernel_rfl) (by kernel_rfl) (by kernel_rfl) (fun _ _ _ h => h) (.inl ⟨by rfl, ?_⟩) (by assumption) ?_
  rotate_left 1
  · intro w0 hSw
    go_simp <;> with_reducible rfl
  try simp only [Act.put, List.getElem_toArray, List.getElem_cons_zero, List.getElem_cons_succ, List.setIfInBounds_toArray, List.set_cons_zero, List.set_cons_succ]
  refine wpAnyH_take (i := 5) (v := ?_) rfl (by kernel_rfl) (by kernel_rfl) (by kernel_rfl) (fun _ _ _ h => h) (.inl ⟨by rfl, ?_⟩) (by assumption) ?_
  rotate_left 1
  · intro w0 hSw
    go_simp <;> with_reducible rfl
  try simp only [Act.put, List.getElem_toArray, List.getElem_cons_zero, List.getElem_cons_succ, List.setIfInBounds_toArray, List.set_cons_zero, List.set_cons_succ]
  refine wpAnyH_take (i := 6) (v := ?_) rfl (by kernel_rfl) (by kernel_rfl) (by kernel_rfl) (fun _ _ _ h => h) (.inl ⟨by rfl, ?_⟩) (by assumption) ?_
  rotate_left 1
  · intro w0 hSw
    go_simp <;> with_reducible rfl
  try simp only [Act.put, List.getElem_toArray, List.getElem_cons_zero, List.getElem_cons_succ, List.setIfInBounds_toArray, List.set_cons_zero, List.set_cons_succ]
  refine wpAnyH_take (i := 7) (v := ?_) rfl (by kernel_rfl) (by kernel_rfl) (by kernel_rfl) (fun _ _ _ h => h) (.inl ⟨by rfl, ?_⟩) (by assumption) ?_
  rotate_left 1
  · intro w0 hSw
    go_simp <;> with_reducible rfl
  try simp only [Act.put, List.getElem_toArray, List.getElem_cons_zero, List.getElem_cons_succ, List.setIfInBounds_toArray, List.set_cons_zero, List.set_cons_succ]
  refine wpAnyH_take (i := 8) (v := ?_) rfl (by kernel_rfl) (by kernel_rfl) (by kernel_rfl) (fun _ _ _ h => h) (.inl ⟨by rfl, ?_⟩) (by assumption) ?_
  rotate_left 1
  · intro w0 hSw
    go_simp <;> with_reducible rfl
  try simp only [Act.put, List.getElem_toArray, List.getElem_cons_zero, List.getElem_cons_succ, List.setIfInBounds_toArray, List.set_cons_zero, List.set_cons_succ]
  refine wpAnyH_take (i := 9) (v := ?_) rfl (by kernel_rfl) (by kernel_rfl) (by kernel_rfl) (fun _ _ _ h => h) (.inl ⟨by rfl, ?_⟩) (by assumption) ?_
  rotate_left 1
  · intro w0 hSw
    go_simp <;> with_reducible rfl
  try simp only [Act.put, List.getElem_toArray, List.getElem_cons_zero, List.getElem_cons_succ, List.setIfInBounds_toArray, List.set_cons_zero, List.set_cons_succ]
  refine wpAnyH_take (i := 10) (v := ?_) rfl (by kernel_rfl) (by kernel_rfl) (by kernel_rfl) (fun _ _ _ h => h) (.inl ⟨by rfl, ?_⟩) (by assumption) ?_
  rotate_left 1
  · intro w0 hSw
    go_simp <;> with_reducible rfl
  try simp only [Act.put, List.getElem_toArray, List.getElem_cons_zero, List.getElem_cons_succ, List.setIfInBounds_toArray, List.set_cons_zero, List.set_cons_succ]
  refine wpAnyH_take (i := 11) (v := ?_) rfl (by kernel_rfl) (by kernel_rfl) (by kernel_rfl) (fun _ _ _ h => h) (.inl ⟨by rfl, ?_⟩) (by assumption) ?_
  rotate_left 1
  · intro w0 hSw
    go_simp <;> with_reducible rfl
  try simp only [Act.put, List.getElem_toArray, List.getElem_cons_zero, List.getElem_cons_succ, List.setIfInBounds_toArray, List.set_cons_zero, List.set_cons_succ]
  refine wpAnyH_take (i := 12) (v := ?_) rfl (by kernel_rfl) (by kernel_rfl) (by kernel_rfl) (fun _ _ _ h => h) (.inl ⟨by rfl, ?_⟩) (by assumption) ?_
  rotate_left 1
  · intro w0 hSw
    go_simp <;> with_reducible rfl
  try simp only [Act.put, List.getElem_toArray, List.getElem_cons_zero, List.getElem_cons_succ, List.setIfInBounds_toArray, List.set_cons_zero, List.set_cons_succ]
  refine wpAnyH_take (i := 13) (v := ?_) rfl (by kernel_rfl) (by kernel_rfl) (by kernel_rfl) (fun _ _ _ h => h) (.inl ⟨by rfl, ?_⟩) (by assumption) ?_
  rotate_left 1
  · intro w0 hSw
    go_simp <;> with_reducible rfl
  try simp only [Act.put, List.getElem_toArray, List.getElem_cons_zero, List.getElem_cons_succ, List.setIfInBounds_toArray, List.set_cons_zero, List.set_cons_succ]
  refine wpAnyH_take (i := 14) (v := ?_) rfl (by kernel_rfl) (by kernel_rfl) (by kernel_rfl) (fun _ _ _ h => h) (.inl ⟨by rfl, ?_⟩) (by assumption) ?_
  rotate_left 1
  · intro w0 hSw
    go_simp <;> with_reducible rfl
  try simp only [Act.put, List.getElem_toArray, List.getElem_cons_zero, List.getElem_cons_succ, List.setIfInBounds_toArray, List.set_cons_zero, List.set_cons_succ]
  refine wpAnyH_take (i := 15) (v := ?_) rfl (by kernel_rfl) (by kernel_rfl) (by kernel_rfl) (fun _ _ _ h => h) (.inl ⟨by rfl, ?_⟩) (by assumption) ?_
  rotate_left 1
  · intro w0 hSw
    go_simp <;> with_reducible rfl
  try simp only [Act.put, List.getElem_toArray, List.getElem_cons_zero, List.getElem_cons_succ, List.setIfInBounds_toArray, List.set_cons_zero, List.set_cons_succ]
  refine wpAnyH_take (i := 16) (v := ?_) rfl (by kernel_rfl) (by kernel_rfl) (by kernel_rfl) (fun _ _ _ h => h) (.inl ⟨by rfl, ?_⟩) (by assumption) ?_
  rotate_left 1
  · intro w0 hSw
    go_simp <;> with_reducible rfl
  try simp only [Act.put, List.getElem_toArray, List.getElem_cons_zero, List.getElem_cons_succ, List.setIfInBounds_toArray, List.set_cons_zero, List.set_cons_succ]
  refine wpAnyH_take (i := 17) (v := ?_) rfl (by kernel_rfl) (by kernel_rfl) (by kernel_rfl) (fun _ _ _ h => h) (.inl ⟨by rfl, ?_⟩) (by assumption) ?_
  rotate_left 1
  · intro w0 hSw
    go_simp <;> with_reducible rfl
  try simp only [Act.put, List.getElem_toArray, List.getElem_cons_zero, List.getElem_cons_succ, List.setIfInBounds_toArray, List.set_cons_zero, List.set_cons_succ]
  refine wpAnyH_take (i := 18) (v := ?_) rfl (by kernel_rfl) (by kernel_rfl) (by kernel_rfl) (fun _ _ _ h => h) (.inl ⟨by rfl, ?_⟩) (by assumption) ?_
  rotate_left 1
  · intro w0 hSw
    go_simp <;> with_reducible rfl
  try simp only [Act.put, List.getElem_toArray, List.getElem_cons_zero, List.getElem_cons_succ, List.setIfInBounds_toArray, List.set_cons_zero, List.set_cons_succ]
  refine wpAnyH_take (i := 19) (v := ?_) rfl (by kernel_rfl) (by kernel_rfl) (by kernel_rfl) (fun _ _ _ h => h) (.inl ⟨by rfl, ?_⟩) (by assumption) ?_
  rotate_left 1
  · intro w0 hSw
    go_simp <;> with_reducible rfl
  try simp only [Act.put, List.getElem_toArray, List.getElem_cons_zero, List.getElem_cons_succ, List.setIfInBounds_toArray, List.set_cons_zero, List.set_cons_succ]
  refine wpAnyH_take (i := 20) (v := ?_) rfl (by kernel_rfl) (by kernel_rfl) (by kernel_rfl) (fun _ _ _ h => h) (.inl ⟨by rfl, ?_⟩) (by assumption) ?_
  rotate_left 1
  · intro w0 hSw
    go_simp <;> with_reducible rfl
  try simp only [Act.put, List.getElem_toArray, List.getElem_cons_zero, List.getElem_cons_succ, List.setIfInBounds_toArray, List.set_cons_zero, List.set_cons_succ]
  refine wpAnyH_take (i := 21) (v := ?_) rfl (by kernel_rfl) (by kernel_rfl) (by kernel_rfl) (fun _ _ _ h => h) (.inl ⟨by rfl, ?_⟩) (by assumption) ?_
  rotate_left 1
  · intro w0 hSw
    go_simp <;> with_reducible rfl
  try simp only [Act.put, List.getElem_toArray, List.getElem_cons_zero, List.getElem_cons_succ, List.setIfInBounds_toArray, List.set_cons_zero, List.set_cons_succ]
  refine wpAnyH_take (i := 22) (v := ?_) rfl (by kernel_rfl) (by kernel_rfl) (by kernel_rfl) (fun _ _ _ h => h) (.inl ⟨by rfl, ?_⟩) (by assumption) ?_
  rotate_left 1
  · intro w0 hSw
    go_simp <;> with_reducible rfl
  try simp only [Act.put, List.getElem_toArray, List.getElem_cons_zero, List.getElem_cons_succ, List.setIfInBounds_toArray, List.set_cons_zero, List.set_cons_succ]
  refine wpAnyH_take (i := 23) (v := ?_) rfl (by kernel_rfl) (by kernel_rfl) (by kernel_rfl) (fun _ _ _ h => h) (.inl ⟨by rfl, ?_⟩) (by assumption) ?_
  rotate_left 1
  · intro w0 hSw
    go_simp <;> with_reducible rfl
  try simp only [Act.put, List.getElem_toArray, List.getElem_cons_zero, List.getElem_cons_succ, List.setIfInBounds_toArray, List.set_cons_zero, List.set_cons_succ]
  refine wpAnyH_take (i := 24) (v := ?_) rfl (by kernel_rfl) (by kernel_rfl) (by kernel_rfl) (fun _ _ _ h => h) (.inl ⟨by rfl, ?_⟩) (by assumption) ?_
  rotate_left 1
  · intro w0 hSw
    go_simp <;> with_reducible rfl
  try simp only [Act.put, List.getElem_toArray, List.getElem_cons_zero, List.getElem_cons_succ, List.setIfInBounds_toArray, List.set_cons_zero, List.set_cons_succ]
  refine wpAnyH_take (i := 25) (v := ?_) rfl (by kernel_rfl) (by kernel_rfl) (by kernel_rfl) (fun _ _ _ h => h) (.inl ⟨by rfl, ?_⟩) (by assumption) ?_
  rotate_left 1
  · intro w0 hSw
    go_simp <;> with_reducible rfl
  try simp only [Act.put, List.getElem_toArray, List.getElem_cons_zero, List.getElem_cons_succ, List.setIfInBounds_toArray, List.set_cons_zero, List.set_cons_succ]
  refine wpAnyH_take (i := 26) (v := ?_) rfl (by kernel_rfl) (by kernel_rfl) (by kernel_rfl) (fun _ _ _ h => h) (.inl ⟨by rfl, ?_⟩) (by assumption) ?_
  rotate_left 1
  · intro w0 hSw
    go_simp <;> with_reducible rfl
  try simp only [Act.put, List.getElem_toArray, List.getElem_cons_zero, List.getElem_cons_succ, List.setIfInBounds_toArray, List.set_cons_zero, List.set_cons_succ]
  refine wpAnyH_take (i := 27) (v := ?_) rfl (by kernel_rfl) (by kernel_rfl) (by kernel_rfl) (fun _ _ _ h => h) (.inl ⟨by rfl, ?_⟩) (by assumption) ?_
  rotate_left 1
  · intro w0 hSw
    go_simp <;> with_reducible rfl
  try simp only [Act.put, List.getElem_toArray, List.getElem_cons_zero, List.getElem_cons_succ, List.setIfInBounds_toArray, List.set_cons_zero, List.set_cons_succ]
  refine wpAnyH_take (i := 28) (v := ?_) rfl (by kernel_rfl) (by kernel_rfl) (by kernel_rfl) (fun _ _ _ h => h) (.inl ⟨by rfl, ?_⟩) (by assumption) ?_
  rotate_left 1
  · intro w0 hSw
    go_simp <;> with_reducible rfl
  try simp only [Act.put, List.getElem_toArray, List.getElem_cons_zero, List.getElem_cons_succ, List.setIfInBounds_toArray, List.set_cons_zero, List.set_cons_succ]
  refine wpAnyH_take (i := 29) (v := ?_) rfl (by kernel_rfl) (by kernel_rfl) (by kernel_rfl) (fun _ _ _ h => h) (.inl ⟨by rfl, ?_⟩) (by assumption) ?_
  rotate_left 1
  · intro w0 hSw
    go_simp <;> with_reducible rfl
  try simp only [Act.put, List.getElem_toArray, List.getElem_cons_zero, List.getElem_cons_succ, List.setIfInBounds_toArray, List.set_cons_zero, List.set_cons_succ]
  refine wpAnyH_take (i := 30) (v := ?_) rfl (by kernel_rfl) (by kernel_rfl) (by kernel_rfl) (fun _ _ _ h => h) (.inl ⟨by rfl, ?_⟩) (by assumption) ?_
  rotate_left 1
  · intro w0 hSw
    go_simp <;> with_reducible rfl
  try simp only [Act.put, List.getElem_toArray, List.getElem_cons_zero, List.getElem_cons_succ, List.setIfInBounds_toArray, List.set_cons_zero, List.set_cons_succ]
  refine wpAnyH_take (i := 31) (v := ?_) rfl (by kernel_rfl) (by kernel_rfl) (by kernel_rfl) (fun _ _ _ h => h) (.inl ⟨by rfl, ?_⟩) (by assumption) ?_
  rotate_left 1
  · intro w0 hSw
    go_simp <;> with_reducible rfl
  try simp only [Act.put, List.getElem_toArray, List.getElem_cons_zero, List.getElem_cons_succ, List.setIfInBounds_toArray, List.set_cons_zero, List.set_cons_succ]
  refine wpAnyH_take (i := 32) (v := ?_) rfl (by kernel_rfl) (by kernel_rfl) (by kernel_rfl) (fun _ _ _ h => h) (.inl ⟨by rfl, ?_⟩) (by assumption) ?_
  rotate_left 1
  · intro w0 hSw
    obtain ⟨z0, z1, z2, z3, z4, z5, z6, z7, z8, z9, z10⟩ := hSw
    go_simp <;> with_reducible rfl
  try simp only [Act.put, List.getElem_toArray, List.getElem_cons_zero, List.getElem_cons_succ, List.setIfInBounds_toArray, List.set_cons_zero, List.set_cons_succ]
  refine wpAnyH_take (i := 34) (v := ?_) rfl (by kernel_rfl) (by kernel_rfl) (by kernel_rfl) (fun _ _ _ h => h) (.inl ⟨by rfl, ?_⟩) (by assumption) ?_
  rotate_left 1
  · intro w0 hSw
    obtain ⟨z0, z1, z2, z3, z4, z5, z6, z7, z8, z9, z10⟩ := hSw
    go_simp <;> with_reducible rfl
  try simp only [Act.put, List.getElem_toArray, List.getElem_cons_zero, List.getElem_cons_succ, List.setIfInBounds_toArray, List.set_cons_zero, List.set_cons_succ]
  refine wpAnyH_ready (rs := [33]) (by kernel_rfl) (by simp) ?_
  refine AllReadyH.cons rfl (fun K hK => ?_) AllReadyH.nil
  go_simp
  go_at_call 14
  refine (HH1.out _ (HWB.out.trans (b8.mono HWB.out.size))).mono ?_
  rintro z w9 ⟨rfl, hb9⟩
  have b9 : Below wb.heap.size wb w9 := b8.trans (hb9.mono b8.size)
  clear hb9
  refine hK.out _ _ (HSS.out _ b9) (fun hHeld => ?_)
  clear hK K
  try simp only [Act.put, List.getElem_toArray, List.getElem_cons_zero, List.getElem_cons_succ, List.setIfInBounds_toArray, List.set_cons_zero, List.set_cons_succ]
  refine wpAnyH_ready (rs := [35]) (by kernel_rfl) (by simp) ?_
  refine AllReadyH.cons rfl (fun K hK => ?_) AllReadyH.nil
  go_simp
  go_at_call 22
  refine (HH2.out _ (HWB.out.trans (b9.mono HWB.out.size))).mono ?_
  rintro z w10 ⟨rfl, hb10⟩
  have b10 : Below wb.heap.size wb w10 := b9.trans (hb10.mono b9.size)
  clear hb10
  refine hK.out _ _ (HSS.out _ b10) (fun hHeld => ?_)
  clear hK K
  try simp only [Act.put, List.getElem_toArray, List.getElem_cons_zero, List.getElem_cons_succ, List.setIfInBounds_toArray, List.set_cons_zero, List.set_cons_succ]
  refine wpAnyH_take (i := 36) (v := ?_) rfl (by kernel_rfl) (by kernel_rfl) (by kernel_rfl) (fun _ _ _ h => h) (.inl ⟨by rfl, ?_⟩) (by assumption) ?_
  rotate_left 1
  · intro w0 hSw
    go_simp <;> with_reducible rfl
  try simp only [Act.put, List.getElem_toArray, List.getElem_cons_zero, List.getElem_cons_succ, List.setIfInBounds_toArray, List.set_cons_zero, List.set_cons_succ]
  refine wpAnyH_take (i := 37) (v := ?_) rfl (by kernel_rfl) (by kernel_rfl) (by kernel_rfl) (fun _ _ _ h => h) (.inl ⟨by rfl, ?_⟩) (by assumption) ?_
  rotate_left 1
  · intro w0 hSw
    go_simp <;> with_reducible rfl
  try simp only [Act.put, List.getElem_toArray, List.getElem_cons_zero, List.getElem_cons_succ, List.setIfInBounds_toArray, List.set_cons_zero, List.set_cons_succ]
  refine wpAnyH_take (i := 38) (v := ?_) rfl (by kernel_rfl) (by kernel_rfl) (by kernel_rfl) (fun _ _ _ h => h) (.inl ⟨by rfl, ?_⟩) (by assumption) ?_
  rotate_left 1
  · intro w0 hSw
    go_simp <;> with_reducible rfl
  try simp only [Act.put, List.getElem_toArray, List.getElem_cons_zero, List.getElem_cons_succ, List.setIfInBounds_toArray, List.set_cons_zero, List.set_cons_succ]
  refine wpAnyH_done (by kernel_rfl) ?_ 0
  go_wp2
  go_ret
  exact ⟨rfl, HWB.out.trans (b10.mono HWB.out.size)⟩
theorem headRoots_any (n m : Nat) (a b c d e : ByteArray) (k : Nat) (v : Value) (br : List ByteArray) (vk : Value) (keys : List ByteArray) (su : ByteArray) (w : World)
    (hn : n < 18446744073709551616) (hm : m < 18446744073709551616) (hk : k < 18446744073709551616)
    (ha : a.size ≤ 1048576) (hb : b.size ≤ 1048576) (hc : c.size ≤ 1048576) (hd : d.size ≤ 1048576) (he : e.size ≤ 1048576) (hv : Strs w v br) (hvk : Strs w vk keys) (hkl : weightS keys ≤ 1048576) (hK : KTab w) :
    Calls Tryd.prog 5 #[.agg #[.int .u64 n, .int .u64 m, .string a, .string b, .string c, .string d, .string e, .int .u64 k, v], .agg #[vk, .string su]] w fun x w' => x = .returned (.bool true) ∧ Below w.heap.size w w' := by
  have hlen : keys.length ≤ 1048576 := Nat.le_trans (weightS_len keys) hkl
  have h1 := fun W (h : Below w.heap.size w W) => headRoot_any n m a b c W hn hm ha hb hc (hK.below h)
  have h2 := fun W (_ : Below w.heap.size w W) => rroot_any n m a b c W hn hm
  have h3 := fun W (h : Below w.heap.size w W) => execRoot_any d e k W hk hd he (hK.below h)
  have h4 := fun W (_ : Below w.heap.size w W) => rexecRoot_any d e k W hk
  have h5 := fun W (h : Below w.heap.size w W) => commRoot_any vk keys su W (hvk.below h) hlen (hK.below h)
  have h6 := fun W (h : Below w.heap.size w W) => rcommRoot_any vk keys su W (hvk.below h) hlen
  have h7 := fun W (h : Below w.heap.size w W) => holds_any n m a b c d e k v br W hn hm hk ha hb hc hd he (hv.below h) (hK.below h)
  have h8 := fun W (h : Below w.heap.size w W) => rholds_any n m a b c d e k v br W hn hm hk (hv.below h) (hK.below h)
  obtain ⟨s1, e1, g1⟩ := rootedV_form (hdrChunks n m a b c) 3
  obtain ⟨s2, e2, g2⟩ := rootedV_form (execChunks d e k) 2
  obtain ⟨s3, e3, g3⟩ := commV_form keys su
  rw [g1] at h1 h2
  rw [g2] at h3 h4
  rw [g3] at h5 h6
  obtain ⟨p, cp, rfl, -⟩ := hv
  obtain ⟨pk, ck, rfl, -⟩ := hvk
  exact roots_walk n m a b c d e k p _ cp pk _ ck su s1 s2 s3 e1 e2 e3 _ w hK h1 h2 h3 h4 h5 h6 h7 h8
end Go.Proofs.YtfbopnebfdkhdaaDoor
