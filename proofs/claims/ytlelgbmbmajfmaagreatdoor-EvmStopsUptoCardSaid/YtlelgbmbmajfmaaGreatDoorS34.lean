/- What the walks take: KecLaid. -/
import Derived.Test.YtlelgbmbmajfmaaGreatDoorS25
import Derived.Test.YtlelgbmbmajfmaaGreatDoorRows
import Derived.Lib.LaidTab
import Derived.LaidSub
namespace Go.Proofs.YtlelgbmbmajfmaaGreatDoor
open Go.RowKit Go.Lib
def kplZ : List Int := placesL.map fun n : Nat => (n : Int)
def ktuZ : List Int := turnsL.map fun n : Nat => (n : Int)
def kcoZ : List Int := constsL.map lv
theorem kplZ_at (t : Nat) (h : t < 24) : kplZ.getD t 0 = ((placesL.getD t 0 : Nat) : Int) := by
  have hl : placesL.length = 24 := rfl
  unfold kplZ
  rw [List.getD_eq_getElem?_getD, List.getD_eq_getElem?_getD, List.getElem?_map, List.getElem?_eq_getElem (by omega)]
  rfl
theorem ktuZ_at (t : Nat) (h : t < 24) : ktuZ.getD t 0 = ((turnsL.getD t 0 : Nat) : Int) := by
  have hl : turnsL.length = 24 := rfl
  unfold ktuZ
  rw [List.getD_eq_getElem?_getD, List.getD_eq_getElem?_getD, List.getElem?_map, List.getElem?_eq_getElem (by omega)]
  rfl
theorem kcoZ_at (t : Nat) (h : t < 24) : kcoZ.getD t 0 = lv (constsL.getD t 0) := by
  have hl : constsL.length = 24 := rfl
  unfold kcoZ
  rw [List.getD_eq_getElem?_getD, List.getD_eq_getElem?_getD, List.getElem?_map, List.getElem?_eq_getElem (by omega)]
  rfl
set_option maxRecDepth 100000 in
theorem kpl_of_met {W : World} (h : laidMet Tryz.prog [("pharos/keccak.places", tabData .i64 kplZ)] W) : ∀ t, t < 24 → W.cell? ⟨0, t, none⟩ = some (.int .i64 ((placesL.getD t 0 : Nat) : Int)) := by
  have ht : TabIs Tryz.prog W "pharos/keccak.places" .i64 kplZ := tabIs_of_head (g := 0) (t := 136) (e := 3) (n := 24) (by kernel_rfl) (by kernel_rfl) (by kernel_rfl) (by kernel_rfl) (by kernel_rfl) (by kernel_rfl) h
  intro t hlt
  have := ht.cell (g := 0) (by kernel_rfl) t hlt
  rw [this, kplZ_at t hlt]
set_option maxRecDepth 100000 in
theorem ktu_of_met {W : World} (h : laidMet Tryz.prog [("pharos/keccak.turns", tabData .i64 ktuZ)] W) : ∀ t, t < 24 → W.cell? ⟨1, t, none⟩ = some (.int .i64 ((turnsL.getD t 0 : Nat) : Int)) := by
  have ht : TabIs Tryz.prog W "pharos/keccak.turns" .i64 ktuZ := tabIs_of_head (g := 1) (t := 136) (e := 3) (n := 24) (by kernel_rfl) (by kernel_rfl) (by kernel_rfl) (by kernel_rfl) (by kernel_rfl) (by kernel_rfl) h
  intro t hlt
  have := ht.cell (g := 1) (by kernel_rfl) t hlt
  rw [this, ktuZ_at t hlt]
set_option maxRecDepth 100000 in
theorem kco_of_met {W : World} (h : laidMet Tryz.prog [("pharos/keccak.constants", tabData .u64 kcoZ)] W) : ∀ t, t < 24 → W.cell? ⟨2, t, none⟩ = some (.int .u64 (lv (constsL.getD t 0))) := by
  have ht : TabIs Tryz.prog W "pharos/keccak.constants" .u64 kcoZ := tabIs_of_head (g := 2) (t := 137) (e := 22) (n := 24) (by kernel_rfl) (by kernel_rfl) (by kernel_rfl) (by kernel_rfl) (by kernel_rfl) (by kernel_rfl) h
  intro t hlt
  have := ht.cell (g := 2) (by kernel_rfl) t hlt
  rw [this, kcoZ_at t hlt]
/-- off a list that holds them -/
theorem kec_laid {l : List (String × DataW Unit)} {W : World} (h : laidMetH Tryz.prog l W)
    (h1 : (l.filter fun x => x.1 == "pharos/keccak.places") = [("pharos/keccak.places", tabData .i64 kplZ)] := by kernel_rfl)
    (h2 : (l.filter fun x => x.1 == "pharos/keccak.turns") = [("pharos/keccak.turns", tabData .i64 ktuZ)] := by kernel_rfl)
    (h3 : (l.filter fun x => x.1 == "pharos/keccak.constants") = [("pharos/keccak.constants", tabData .u64 kcoZ)] := by kernel_rfl) : KecT W := by
  have p1 := h.filter (fun x => x.1 == "pharos/keccak.places")
  have p2 := h.filter (fun x => x.1 == "pharos/keccak.turns")
  have p3 := h.filter (fun x => x.1 == "pharos/keccak.constants")
  rw [h1] at p1
  rw [h2] at p2
  rw [h3] at p3
  exact ⟨kpl_of_met p1, ktu_of_met p2, kco_of_met p3⟩
end Go.Proofs.YtlelgbmbmajfmaaGreatDoor
