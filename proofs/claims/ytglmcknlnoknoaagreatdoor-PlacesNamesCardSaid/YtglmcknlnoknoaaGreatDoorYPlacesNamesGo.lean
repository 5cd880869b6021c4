/- -/
import Derived.Test.YtglmcknlnoknoaaGreatDoorYPlacesNamesGf
import Derived.Test.YtglmcknlnoknoaaGreatDoorYPlacesNames1a
import Derived.Test.YtglmcknlnoknoaaGreatDoorYPlacesNames0a
namespace Go.Proofs.YtglmcknlnoknoaaGreatDoor
set_option maxRecDepth 100000
set_option maxHeartbeats 40000000
section
open Go.RowKit Go.Shelf
attribute [local go_sem] Oper.semAt_some
theorem gEach_any (s : ByteArray) (w : World) : Calls Tryz.prog 162 #[.string s] w fun e w'=>∃ bs,e = .returned (.func (.func 211) #[] #[.pointer (some ⟨bs,0,none⟩)])∧w'.cell? ⟨bs,0,none⟩ = some (.string s)∧Below w.heap.size w w':=by
 have hmf : ∀ (fn : Fn) (first cap : Array Value) (w : World),(Instr.makeFunc fn first cap).run Tryz.prog w = .ok (.func fn first cap) w:=fun _ _ _ _=>rfl
 go_enter Tryz.func162,Tryz.ntmps162
 go_wp2
 go_ret
 exact ⟨_,rfl,(Blk.new w 9 #[.string s]).cell 0,(Below.refl _ _).alloc (Nat.le_refl _) _⟩
end
end Go.Proofs.YtglmcknlnoknoaaGreatDoor
