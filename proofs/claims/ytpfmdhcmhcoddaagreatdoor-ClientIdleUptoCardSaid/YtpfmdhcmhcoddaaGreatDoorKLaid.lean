/- The table of the rounds' constants, off what the rows list as laid. -/
import Derived.Test.YtpfmdhcmhcoddaaGreatDoorShaB
import Derived.Test.YtpfmdhcmhcoddaaGreatDoorRows
import Derived.Lib.LaidTab
import Derived.LaidSub
namespace Go.Proofs.YtpfmdhcmhcoddaaGreatDoor
open Go.RowKit Go.Lib

def ktabZ : List Int := [1116352408, 1899447441, 3049323471, 3921009573, 961987163, 1508970993, 2453635748, 2870763221, 3624381080, 310598401, 607225278, 1426881987, 1925078388, 2162078206, 2614888103, 3248222580, 3835390401, 4022224774, 264347078, 604807628, 770255983, 1249150122, 1555081692, 1996064986, 2554220882, 2821834349, 2952996808, 3210313671, 3336571891, 3584528711, 113926993, 338241895, 666307205, 773529912, 1294757372, 1396182291, 1695183700, 1986661051, 2177026350, 2456956037, 2730485921, 2820302411, 3259730800, 3345764771, 3516065817, 3600352804, 4094571909, 275423344, 430227734, 506948616, 659060556, 883997877, 958139571, 1322822218, 1537002063, 1747873779, 1955562222, 2024104815, 2227730452, 2361852424, 2428436474, 2756734187, 3204031479, 3329325298]
theorem ktabZ_eq : ktabZ = ktab.map wv := by kernel_rfl
theorem ktabZ_at (t : Nat) (h : t < 64) : ktabZ.getD t 0 = wv (kAt t) := by
  have hl : ktab.length = 64 := rfl
  rw [ktabZ_eq]
  unfold kAt
  rw [List.getD_eq_getElem?_getD, List.getD_eq_getElem?_getD, List.getElem?_map, List.getElem?_eq_getElem (by omega)]
  rfl
set_option maxRecDepth 100000 in
theorem ktab_of_met {W : World} (h : laidMet Tryz.prog [("pharos/sha.k", tabData .u32 ktabZ)] W) : KTab W := by
  have ht : TabIs Tryz.prog W "pharos/sha.k" .u32 ktabZ := tabIs_of_head (g := 4) (t := 356) (e := 296) (n := 64) (by kernel_rfl) (by kernel_rfl) (by kernel_rfl) (by kernel_rfl) (by kernel_rfl) (by kernel_rfl) h
  intro t hlt
  have := ht.cell (g := 4) (by kernel_rfl) t hlt
  rw [this, ktabZ_at t hlt]
/-- off a list that holds it -/
theorem ktab_laid {l : List (String × DataW Unit)} {W : World} (h : laidMetH Tryz.prog l W) (hk : (l.filter fun x => x.1 == "pharos/sha.k") = [("pharos/sha.k", tabData .u32 ktabZ)] := by kernel_rfl) : KTab W := by
  have := h.filter (fun x => x.1 == "pharos/sha.k")
  rw [hk] at this
  exact ktab_of_met this
end Go.Proofs.YtpfmdhcmhcoddaaGreatDoor
