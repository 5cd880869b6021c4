/- -/
import Derived.Test.YtglmcknlnoknoaaGreatDoorVZbB
import Derived.Test.YtglmcknlnoknoaaGreatDoorV5a
import Derived.Test.YtglmcknlnoknoaaGreatDoorV6a
namespace Go.Proofs.YtglmcknlnoknoaaGreatDoor
set_option maxRecDepth 100000
set_option maxHeartbeats 40000000
section
open Go.RowKit
theorem zclasses_any (base p x px : Nat) (d : DbP) (l : List (Nat × Nat × Nat)) (A : Option Addr) (n c : Nat) (w : World) (hcs : w.cell? ⟨px,0,none⟩ = some (.pointer (some ⟨p,0,none⟩))) (hd : RfB w base p x d.names d.full) (ho : d.Ok) (hap : Apart d.sets)
  (hA : Rd w 3 A (l.map encRn)) (hl : l.length = n) (hn : n≤1000000) :
  Calls Tryz.prog 155 #[.pointer (some ⟨px,0,none⟩),.slice A n c] w fun e w'=>∃ (B : Option Addr) (c' : Nat),e = .returned (.slice B n c')∧Own w' w.heap.size 3 1 B n c' (l.map (fun x=>encN (d.get (x.1 : Nat))))∧Below w.heap.size w w':=by
 obtain ⟨i0,hi0,hz0,hz1,hz2⟩:=info_parts infoInt
 have HGa:=Lib.hid (fun r W (h : Below w.heap.size w W)=>vGet_any base p x d r W (hd.below h) ho hap)
 have Hl:=Lib.hid hl
 clear hl hd
 go_enter Tryz.func155,Tryz.ntmps155
 go_wp2_with fail
 go_loopw [5,6] (fun u z wr=>∃ (i : Nat) (B : Option Addr) (c' : Nat),u = .slice B i c'∧z = .int .i64 i∧i≤n∧Own wr w.heap.size 3 1 B i c' ((l.take i).map (fun x=>encN (d.get (x.1 : Nat))))∧Below w.heap.size w wr) (fun _ z _=>n - (intOf z).toNat)
 case atStart=>exact ⟨0,none,0,rfl,rfl,by omega,Own.nil_ _ _ _ _,Below.refl _ _⟩
 case round =>
  obtain ⟨i,B,c',rfl,rfl,hi,ho',hb⟩:=hrel
  have hrz:=hb.size
  by_cases hlt : i < n
  ·obtain ⟨⟨R,p1,q1⟩,hx⟩ : ∃ x,l[i]? = some x:=⟨_,List.getElem?_eq_getElem (by have:=Hl.out;omega)⟩
   obtain ⟨b,off,rfl,cc0,-⟩:=hA.atRn hx
   have cs0:=hcs
   have cs:=cell_keep hcs hb
   have c0:=cell_keep cc0 hb
   have HT : Hid ((l.take (i+1)).map (fun x=>encN (d.get (x.1 : Nat))) = (l.take i).map (fun x=>encN (d.get (x.1 : Nat)))++[encN (d.get (R : Nat))]):=Lib.hid (by rw [take_snoc hx,List.map_append];rfl)
   have HG:=Lib.hid (HGa.out (R : Nat))
   obtain ⟨y,Hy⟩ : ∃ y,Hid (d.get (R : Nat) = y):=⟨_,Lib.hid rfl⟩
   rw [Hy.out] at HT HG
   clear hx
   go_wp2_with fail
   refine wp_region_last (S:=fun V=>V.cell? ⟨px,0,none⟩ = some (.pointer (some ⟨p,0,none⟩))∧V.cell? ⟨b,off+i*3,none⟩ = some (.int .i32 (R : Nat))) 13 rfl (by kernel_rfl) (by kernel_rfl) (by kernel_rfl) ⟨cs,c0⟩ (fun hHeld=>?_)
   simp only [List.dropLast_cons_cons,List.dropLast_singleton]
   refine tkH (i:=0) (v:=?_) rfl ?_ ?_;rotate_left;focus ((intro w hSw;(try dsimp only at hSw);go_simp);try with_reducible rfl)
   (try simp only [Act.put,zA,zC,zD,zE,zF])
   refine tkH (i:=1) (v:=?_) rfl ?_ ?_;rotate_left;focus ((intro w hSw;(try dsimp only at hSw);go_simp);try with_reducible rfl)
   (try simp only [Act.put,zA,zB,zC,zD,zE,zF])
   refine tkH (i:=2) (v:=?_) rfl ?_ ?_;rotate_left;focus ((intro w hSw;(try dsimp only at hSw);go_simp);try with_reducible rfl)
   (try simp only [Act.put,zA,zB,zC,zD,zE,zF])
   refine tkH (i:=3) (v:=?_) rfl ?_ ?_;rotate_left;focus ((intro w hSw;(try dsimp only at hSw);go_simp);try with_reducible rfl)
   (try simp only [Act.put,zA,zB,zC,zD,zE,zF])
   refine tkH (i:=4) (v:=?_) rfl ?_ ?_;rotate_left;focus ((intro w hSw;(try dsimp only at hSw);go_simp);try with_reducible rfl)
   (try simp only [Act.put,zA,zB,zC,zD,zE,zF])
   refine tkH (i:=5) (v:=?_) rfl ?_ ?_;rotate_left;focus ((intro w hSw;(try dsimp only at hSw);go_simp);try with_reducible rfl)
   (try simp only [Act.put,zA,zB,zC,zD,zE,zF])
   refine tkH (i:=6) (v:=?_) rfl ?_ ?_;rotate_left;focus ((intro w hSw;(try dsimp only at hSw);go_simp);try with_reducible rfl)
   (try simp only [Act.put,zA,zB,zC,zD,zE,zF])
   refine tkH (i:=7) (v:=?_) rfl ?_ ?_;rotate_left;focus ((intro w hSw;(try dsimp only at hSw);go_simp);try with_reducible rfl)
   (try simp only [Act.put,zA,zB,zC,zD,zE,zF])
   refine tkH (i:=8) (v:=?_) rfl ?_ ?_;rotate_left;focus ((intro w hSw;(try dsimp only at hSw);go_simp);try with_reducible rfl)
   (try simp only [Act.put,zA,zB,zC,zD,zE,zF])
   refine tkH (i:=9) (v:=?_) rfl ?_ ?_;rotate_left;focus ((intro w hSw;(try dsimp only at hSw);go_simp);try with_reducible rfl)
   (try simp only [Act.put,zA,zB,zC,zD,zE,zF])
   refine wpAnyH_ready (rs:=[10]) (by kernel_rfl) (by simp) ?_
   refine AllReadyH.cons rfl (fun K hK=>?_) AllReadyH.nil
   go_simp
   refine (HG.out wr.drew (hb.drew)).mono ?_
   rintro e wz ⟨rfl,rfl⟩
   refine hK.out _ _ ⟨cs,c0⟩ (fun hHeld=>?_)
   clear hK K
   (try simp only [Act.put,zA,zB,zC,zD,zE,zF])
   refine wpAnyH_ready (rs:=[11]) (by kernel_rfl) (by simp) ?_
   refine AllReadyH.cons rfl (fun K hK=>?_) AllReadyH.nil
   go_simp
   have hal : Below wr.heap.size wr (wr.alloc (.cells #[.int .i64 (y : Nat)] 3)).drew:=((Below.refl _ _).alloc (Nat.le_refl _) _).drew
   refine hK.out _ _ ⟨cell_keep cs hal,cell_keep c0 hal⟩ (fun hHeld=>?_)
   clear hK K
   (try simp only [Act.put,zA,zB,zC,zD,zE,zF])
   refine wpAnyH_ready (rs:=[12]) (by kernel_rfl) (by simp) ?_
   refine AllReadyH.cons rfl (fun K hK=>?_) AllReadyH.nil
   refine step_app rfl (.tmp 13) (.tmp 24) _ rfl w.heap.size 3 i0 _ 1 8 Tryz.underlying52 hi0 hz0 hz1 hz2 rfl (by omega) B i c' ((l.take i).map (fun x=>encN (d.get (x.1 : Nat)))) rfl (ho'.alloc _).drew _ 1 1 [encN y] rfl rfl (Rd.newAt (by simp) rfl).drew (encN_ok' [y]) (by unfold maxLen;omega) (by omega) (by simp;omega) ?_
   intro A9 c9 w9 ho9 hg9 hA9
   have hb9:=below_app (hb.alloc hb.size (.cells #[.int .i64 (y : Nat)] 3)).drew hg9 (by simp;omega) (fun a ha=>(ho'.lt a ha).1)
   refine hK.out _ _ ⟨cell_keep cs0 hb9,cell_keep cc0 hb9⟩ (fun hHeld=>?_)
   clear hK K
   (try simp only [Act.put,zA,zB,zC,zD,zE,zF])
   refine wpAnyH_done (by kernel_rfl) ?_ _
   refine tailQ_end (wpOp_step (i:=13) rfl (fun K hK=>?_))
   go_simp
   refine hK _ _ ?_
   clear hK K
   go_wp2
   go_roundw
   case rel=>exact ⟨i+1,A9,c9,by first | rfl | go_num,by first | rfl | go_num,by omega,by rw [HT.out];exact ho9,hb9⟩
   case measure=>simp [intOf];omega
  ·obtain rfl : i = n:=by omega
   rw [List.take_of_length_le (by have:=Hl.out;omega)] at ho'
   go_wp2
   go_ret
   exact ⟨B,c',rfl,ho',hb⟩
end
end Go.Proofs.YtglmcknlnoknoaaGreatDoor
