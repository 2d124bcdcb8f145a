/-
  What package integer answers, out of the globals.
-/
import Derived.Test.YtkekafamfoifmaaGreatDoorZAll
import Derived.Test.YtkekafamfoifmaaGreatDoorZPrs
namespace Go.Proofs.YtkekafamfoifmaaGreatDoor
open Go.RowKit Go.Shelf
attribute [local go_sem] Oper.semAt_some

theorem IOps.of_glob {w : World} (hG : Glob w) : IOps w where
  val ha W _ := iValid_all ha W (Below.refl _ _)
  cmp ha hb W _ := iCompare_all ha hb W (Below.refl _ _)
  gcd ha hb W hk := iGcd_all (hG.below hk) ha hb W (Below.refl _ _)
  add ha hb W hk := iAdd_all (hG.below hk) ha hb W (Below.refl _ _)
  sub ha hb W hk := iSub_all (hG.below hk) ha hb W (Below.refl _ _)
  mul ha hb W hk := iMul_all (hG.below hk) ha hb W (Below.refl _ _)
  div ha hb W hk := iDiv_all (hG.below hk) ha hb W (Below.refl _ _)
theorem FrOp.of_glob {w : World} (hG : Glob w) : FrOp w := fun _ h1 h2 W hk => FromInt_s (hG.below hk) h1 h2 rfl W (Below.refl _ _)

end Go.Proofs.YtkekafamfoifmaaGreatDoor

