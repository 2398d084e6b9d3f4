/- Short names of some laws of lists. -/
namespace Go.Proofs.YthicdhnjincflaaGreatDoor
universe u
theorem zq1 : type_of% @List.getElem_toArray.{u} := @List.getElem_toArray.{u}
theorem zq2 : type_of% @List.getElem_cons_zero.{u} := @List.getElem_cons_zero.{u}
theorem zq3 : type_of% @List.getElem_cons_succ.{u} := @List.getElem_cons_succ.{u}
theorem zq4 : type_of% @List.setIfInBounds_toArray.{u} := @List.setIfInBounds_toArray.{u}
theorem zq5 : type_of% @List.set_cons_zero.{u} := @List.set_cons_zero.{u}
theorem zq6 : type_of% @List.set_cons_succ.{u} := @List.set_cons_succ.{u}
end Go.Proofs.YthicdhnjincflaaGreatDoor
