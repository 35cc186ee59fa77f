/-
  token.right.
-/
import Derived.Test.YtepjcdjpikbbjaaGreatDoorU00
import Derived.Test.YtepjcdjpikbbjaaGreatDoorU17
set_option maxHeartbeats 2000000
namespace Go.Proofs.YtepjcdjpikbbjaaGreatDoor
open Go.Proofs.Tryz
open Go.RowKit
theorem pE (a b c d:Int) (W:World):Calls prog 191 #[v4 a b c d] W fun e w'=>e=.returned (.bool (bN a b c d))∧Below W.heap.size W w':=by
 have h:(a=1∧d=0)∨(a=1∧((d == 0)=false∧decide (d=0)=false))∨(a=2)∨((a == 1)=false∧(a == 2)=false∧decide (a=1)=false∧decide (a=2)=false):=by
  by_cases h1:a=1<;>by_cases h2:a=2<;>by_cases h3:d=0<;>simp[h1,h2,h3]<;>omega
 unfold v4;obtain⟨ob,hob⟩: ∃ ob,ba b=ob:=⟨_,rfl⟩;obtain⟨od,hod⟩: ∃ od,ba d=od:=⟨_,rfl⟩;rcases h with⟨rfl,rfl⟩|⟨rfl,hd,hd'⟩|rfl|⟨h1,h2,h1',h2'⟩
 all_goals cases ob<;>cases od
 all_goals
  (go_enter Tryz.func191,Tryz.ntmps191
   go_wp2_with (go_at_call 228;refine(Eg _ _).mono ?_;rintro e w1 ⟨rfl,rfl⟩);go_ret;refine⟨?_,(Below.refl _ _).alloc (Nat.le_refl _) _⟩
   show Ending.returned _=_
   simp[bN, *])
end Go.Proofs.YtepjcdjpikbbjaaGreatDoor
