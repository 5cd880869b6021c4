/- -/
import Derived.Test.YtlfpdpbbkjnapaaGreatDoorYPlacesTellsGf
import Derived.Test.YtlfpdpbbkjnapaaGreatDoorYPlacesTells1a
import Derived.Test.YtlfpdpbbkjnapaaGreatDoorYPlacesTells0b
namespace Go.Proofs.YtlfpdpbbkjnapaaGreatDoor
set_option maxRecDepth 100000
set_option maxHeartbeats 40000000
section
open Go.RowKit Go.Shelf
attribute [local go_sem] Oper.semAt_some
theorem gEach_any (s : ByteArray) (w : World) : Calls Tryz.prog 84 #[.string s] w fun e w'=>∃ bs,e = .returned (.func (.func 106) #[] #[.pointer (some ⟨bs,0,none⟩)])∧w'.cell? ⟨bs,0,none⟩ = some (.string s)∧Below w.heap.size w w':=by
 have hmf : ∀ (fn : Fn) (first cap : Array Value) (w : World),(Instr.makeFunc fn first cap).run Tryz.prog w = .ok (.func fn first cap) w:=fun _ _ _ _=>rfl
 go_enter Tryz.func84,Tryz.ntmps84
 go_wp2
 go_ret
 exact ⟨_,rfl,(Blk.new w 9 #[.string s]).cell 0,(Below.refl _ _).alloc (Nat.le_refl _) _⟩
end
end Go.Proofs.YtlfpdpbbkjnapaaGreatDoor
