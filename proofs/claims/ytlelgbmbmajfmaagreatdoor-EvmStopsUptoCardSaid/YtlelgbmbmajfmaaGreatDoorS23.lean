/- What the walks take: Ew17. -/
import Derived.Test.YtlelgbmbmajfmaaGreatDoorS3
import Derived.Test.YtlelgbmbmajfmaaGreatDoorS11
import Derived.Test.YtlelgbmbmajfmaaGreatDoorS22
namespace Go.Proofs.YtlelgbmbmajfmaaGreatDoor
open Go.RowKit Go.Shelf Go.Lib
def lettersOf (xs : List ByteArray) : List UInt8 := (xs.map (·.data.toList)).flatten
theorem joinTail_nil (r : List (List UInt8)) : Lib.joinTail [] r = r.flatten := by
  induction r with
  | nil => rfl
  | cons x r ih => simp [Lib.joinTail] at ih ⊢; try exact ih
theorem join_letters (xs : List (List UInt8)) : Lib.join xs [] = xs.flatten := by
  cases xs with
  | nil => rfl
  | cons x r => rw [Lib.join_cons, joinTail_nil, List.flatten_cons]
theorem join_any (v : Value) (xs : List ByteArray) (w : World) (hv : Strs w v xs) (hN : xs.length ≤ 1099511627776) (hlen : (lettersOf xs).length ≤ 1099511627776) :
    Calls Tryz.prog 46 #[v, .string ⟨#[]⟩] w fun e w' => e = .returned (.string ⟨(lettersOf xs).toArray⟩) ∧ Below w.heap.size w w' := by
  obtain ⟨p, c, rfl, hc, rfl | ⟨bk, o, rfl, hk, h⟩⟩ := hv
  · refine (Tryz.strings_Join_none p c ⟨#[]⟩ w).mono ?_
    rintro e w' ⟨rfl, rfl⟩
    exact ⟨rfl, Below.refl _ _⟩
  · have e : Lib.join (xs.map (·.data.toList)) (⟨#[]⟩ : ByteArray).data.toList = lettersOf xs := join_letters _
    have := Tryz.strings_Join bk o c xs ⟨#[]⟩ w h hk (by omega) hc (by rw [e]; omega)
    rw [e] at this
    exact this
theorem conv_gate {P : Program} {ops : Array Oper} {Q : Exit → Act → World → Prop} {rest : List Oper} {a : Act} {w : World} {d : Option Tmp} {x : Operand} {ty : TypeId} {pos : String} {af : Array Edge} {g : Option (Nat × Bool)} (S T : TypeId)
    (h : wpList P ops Q (Oper.mk d (Op.convert S T x) ty pos af g :: rest) a w) : wpList P ops Q (Oper.mk d (Op.convert S T x) ty pos af g :: rest) a w := h
theorem infoByteK : (Tryz.prog.info? 5).map (fun i => (i.zero, i.size, i.bytes)) = some (some (.int .u8 0), 1, 1) := by kernel_rfl
theorem app_one (l : List UInt8) (x : UInt8) : (⟨l.toArray⟩ ++ ⟨#[x]⟩ : ByteArray) = ⟨(l ++ [x]).toArray⟩ := by
  apply ByteArray.ext
  apply Array.toList_inj.1
  simp
def At8 (w : World) (g : Nat) (f : Nat → UInt8) (n : Nat) : Prop := ∀ j, j < n → w.cell? ⟨g, j, none⟩ = some (.int .u8 ((f j).toNat : Int)) ∧ w.frozen? ⟨g, j, none⟩ = false
theorem At8.of_block {w w' : World} {g n : Nat} {f : Nat → UInt8} (h : At8 w g f n) (hb : w'.heap[g]? = w.heap[g]?) : At8 w' g f n := fun j hj =>
  ⟨(World.cell?_of_block hb).trans (h j hj).1, by have := (h j hj).2; unfold World.frozen? at *; rw [hb]; exact this⟩
theorem At8.set {w : World} {g n i : Nat} {f : Nat → UInt8} (h : At8 w g f n) (hi : i < n) (v : UInt8) : At8 (w.setCell ⟨g, i, none⟩ (.int .u8 (v.toNat : Int))) g (fun j => if j = i then v else f j) n := fun j hj => by
  refine ⟨?_, by rw [World.frozen?_setCell]; exact (h j hj).2⟩
  show _ = some (Value.int .u8 ((if j = i then v else f j).toNat : Int))
  by_cases hji : j = i
  · subst hji
    rw [if_pos rfl]
    exact World.cell?_setCell_same _ _ _ (h j hj).1
  · rw [if_neg hji, World.cell?_setCell_other _ _ _ _ (fun e => hji (by cases e; rfl))]
    exact (h j hj).1
end Go.Proofs.YtlelgbmbmajfmaaGreatDoor
