/-
 Several texts in one,in their build order: Wh,WitL,Wi,Wj,Vb,Qt,Vd,PrB,PrC,PrD,PrE,PrG,Qd,Vi,Ke,Td,Tf,Vc,Ve,Vf,PrJ,PrK,PrL,Vm,PtP,Te,Tk.
-/
import Derived.Test.YtglmcknlnoknoaaGreatDoorCards
import Derived.Test.YtglmcknlnoknoaaGreatDoorTie
import Derived.PinnedBridge
import Derived.Lib.LaidIn
import Derived.Lib.LaidU8
import Derived.Lib.LaidTab
import Derived.Shelf.Vars
import Derived.Deep.DeepHandedRow
import Derived.Deep.DeepWitnessRowRef
import Derived.ProofKit
import Derived.Deep.CutRange
import Derived.OwnWalk
import Derived.Deep.DeepCutAuto
import Derived.WalkMore
import Derived.Test.YtglmcknlnoknoaaGreatDoorVWf
import Derived.Test.YtglmcknlnoknoaaGreatDoorVWg
import Derived.Test.YtglmcknlnoknoaaGreatDoorV0a
import Derived.Test.YtglmcknlnoknoaaGreatDoorVRdr
import Derived.Test.YtglmcknlnoknoaaGreatDoorV2a
import Derived.Test.YtglmcknlnoknoaaGreatDoorV1a
import Derived.Test.YtglmcknlnoknoaaGreatDoorV0b
import Derived.Test.YtglmcknlnoknoaaGreatDoorVWa
import Derived.Test.YtglmcknlnoknoaaGreatDoorV3a
import Derived.Test.YtglmcknlnoknoaaGreatDoorVShelf
import Derived.Test.YtglmcknlnoknoaaGreatDoorVTc
/- -/
namespace Go.Proofs.YtglmcknlnoknoaaGreatDoor
set_option maxRecDepth 100000
set_option maxHeartbeats 40000000
section
open Go.RowKit Go.Maps
structure Env (w : World) : Prop where
 tabs : Tabs w
 max : MaxW w
 tabB : TabB w
theorem Env.below {w w' : World} (h : Env w) (hb : Below w.heap.size w w') : Env w':=⟨h.tabs.below hb,h.max.below hb,cell_keep h.tabB hb⟩
theorem wpList_insert_own {H : Type} {P : Program} (w : World) {ops : Array Oper} {rest : List Oper} {o : Oper} {a : Act} {Q : Exit→Act→World→Prop}
  (hg : o.guard = none) (m x v : Operand) (t : TypeId) (hop : o.op = Op.insert t m x v)
  (k e : TypeId) (K : Keyed P k) (ht : P.underlying t = some (.map k e)) (R : Value→Option (DataW H × List MemPlace)) (b n : Nat) (D : DataW H)
  (hm : a.eval m = .map (some b)) (hown : w.ownsMap P k R b n D) (hn : n < maxLen) (key val : Value) (kl : Lit) (hx : a.eval x = key) (hv : a.eval v = val) (hkey : keyOf P k key = some kl)
  (d : DataW H) (ps : List MemPlace) (hval : R val = some (d,ps))
  (hK : ∀ w',w'.ownsMap P k R b (n+1) (D.put kl d)→w.grownBy w' (some b)→wpList P ops Q rest (a.put o.dst undef) w') :
  wpList P ops Q (o :: rest) a w:=by
 refine wpList_plain hg fun K' hK'=>?_
 obtain ⟨w',hrun,r1,r2⟩:=hown.update K ht hn hkey hval
 unfold Oper.wp
 simp [execOp,hop,hm,hx,hv,hrun,Result.andThen]
 exact hK' _ _ (hK w' r1 r2)
theorem mem_lenL : ∀ {L : List (List UInt8)} {l : List UInt8},l ∈ L→l.length+1≤lenL L
 | [],l,h=>by simp at h
 | a :: L,l,h=>by
  rcases List.mem_cons.1 h with rfl | h
  ·simp only [lenL];omega
  ·have:=mem_lenL h;simp only [lenL];omega
theorem line_len {t : List UInt8} {i : Nat} {l : List UInt8} (h : (splitL t)[i]? = some l) : l.length≤t.length:=by
 have:=mem_lenL (List.mem_of_getElem? h);rw [split_len] at this;omega
theorem addL_err {d : DbP} {n s : List UInt8} {k : Int} (h : addL d n s = .error k) : 6≤k:=by
 unfold addL at h
 split at h
 ·injection h with h;omega
 ·split at h
  ·rename_i e he
   injection h with h;subst h
   unfold parseE at he
   split at he
   ·rename_i y hy
    injection he with he
    have:=parse_code hy;omega
   ·cases he
  ·split at h
   ·split at h
    ·injection h with h;omega
    ·cases h
   ·split at h
    ·injection h with h;omega
    ·split at h
     ·injection h with h;omega
     ·cases h
theorem addS_err {d : DbP} {u : List UInt8} {k : Int} (h : addS d u = .error k) : 6≤k:=by
 unfold addS at h
 split at h
 ·injection h with h;omega
 ·exact addL_err h
theorem lineU_len (l : List UInt8) : (lineU l).length≤l.length:=by
 unfold lineU
 refine Nat.le_trans (trimL_len _) ?_
 rw [List.length_take];omega
def NewEnd (r : Except (Int × Nat) DbP) (e : Ending) (w' : World) : Prop :=
 match r with
 | .error x=>e = .returned (.tuple #[.pointer none,.int .i64 x.1,.int .i64 (x.2 : Int)])
 | .ok d=>∃ p,e = .returned (.tuple #[.pointer (some ⟨p,0,none⟩),.int .i64 0,.int .i64 0])∧DbAt w' p d
theorem NewEnd.err {r : Except (Int × Nat) DbP} {k : Int} {i : Nat} {w' : World} (h : r = .error (k,i)) : NewEnd r (.returned (.tuple #[.pointer none,.int .i64 k,.int .i64 (i : Int)])) w':=by rw [h];exact rfl
theorem NewEnd.fine {r : Except (Int × Nat) DbP} {d : DbP} {p : Nat} {w' : World} (h : r = .ok d) (hd : DbAt w' p d) : NewEnd r (.returned (.tuple #[.pointer (some ⟨p,0,none⟩),.int .i64 0,.int .i64 0])) w':=by rw [h];exact ⟨p,rfl,hd⟩
theorem own_one {w : World} {t : TypeId} {u : Value} {base : Nat} (hb : base≤w.heap.size) : Own (w.alloc (.cells #[u] t)) base t 1 (some ⟨w.heap.size,0,none⟩) 1 1 [[u]] :=
 ⟨rfl,by simp,by simp,.inr ⟨w.heap.size,1,#[u],rfl,hb,heap_alloc_new _ _,Nat.le_refl _,by unfold maxLen;omega,rfl,by simp⟩⟩
theorem dbX_first {w w2 : World} {D : DataW Unit} (hD : D = (DataW.map []).put (.string otherL) (.lit (.int .i64 0)))
  (hown : w2.ownsMap Tryz.prog 9 (plainElem (H:=Unit) Tryz.prog 3) (w.heap.size+1) 1 D) (hg : ((w.alloc (.cells #[.string (bytesOf otherL)] 9)).alloc (.map #[] 0)).grownBy w2 (some (w.heap.size+1))) :
  DbX ((w2.alloc (.cells #[.slice none 0 0] 218)).alloc (.cells #[.slice (some ⟨w.heap.size,0,none⟩) 1 1,.map (some (w.heap.size+1)),.slice (some ⟨w2.heap.size,0,none⟩) 1 1,.slice none 0 0] 174)) w.heap.size (w2.heap.size+1) (w2.heap.size+2)
   (some ⟨w.heap.size,0,none⟩) 1 1 (w.heap.size+1) 1 D (some ⟨w2.heap.size,0,none⟩) 1 1 [(none,0,0)] [otherL] [[]] ∧
  Below w.heap.size w ((w2.alloc (.cells #[.slice none 0 0] 218)).alloc (.cells #[.slice (some ⟨w.heap.size,0,none⟩) 1 1,.map (some (w.heap.size+1)),.slice (some ⟨w2.heap.size,0,none⟩) 1 1,.slice none 0 0] 174)):=by
 have hs2:=hg.size
 simp at hs2
 have n1 : Own (w.alloc (.cells #[.string (bytesOf otherL)] 9)) w.heap.size 9 1 (some ⟨w.heap.size,0,none⟩) 1 1 ([otherL].map encNm):=own_one (Nat.le_refl _)
 have n2:=((n1.alloc (.map #[] 0)).grown hg (fun a ha e=>by injection ha with ha;subst ha;injection e with e;simp only at e;omega))
 have s3 : Own (w2.alloc (.cells #[.slice none 0 0] 218)) w.heap.size 218 1 (some ⟨w2.heap.size,0,none⟩) 1 1 ([((none : Option Addr),0,0)].map encSl):=own_one (by omega)
 refine ⟨⟨?_,by omega,(n2.alloc _).alloc _,(hown.alloc _).alloc _,Nat.le_refl _,by omega,?_,s3.alloc _,⟨rfl,?_⟩,by omega,by omega,fun a ha=>by injection ha with ha;subst ha;show w.heap.size ≠ w2.heap.size+2;omega,fun a ha=>by injection ha with ha;subst ha;show w2.heap.size ≠ w2.heap.size+2;omega⟩,?_⟩
 ·have:=Blk.new (w2.alloc (.cells #[.slice none 0 0] 218)) 174 #[.slice (some ⟨w.heap.size,0,none⟩) 1 1,.map (some (w.heap.size+1)),.slice (some ⟨w2.heap.size,0,none⟩) 1 1,.slice none 0 0]
  simpa using this
 ·rw [hD];exact MapIs.nil_.put otherL rfl
 ·intro k x l hx hl
  match k,hx,hl with
  | 0,hx,hl=>simp at hx hl;subst hx;subst hl;exact Own.nil_ _ _ _ _
  | k+1,hx,hl=>simp at hx
 ·have h1 : Below w.heap.size w ((w.alloc (.cells #[.string (bytesOf otherL)] 9)).alloc (.map #[] 0)):=((Below.refl _ _).alloc (Nat.le_refl _) _).alloc (by simp) _
  have h2:=h1.grown hg (by simp;omega) (fun k hk=>by injection hk with hk;omega)
  exact (h2.alloc (by omega) _).alloc (by simp;omega) _
theorem wNew_any (t : List UInt8) (w : World) (hE : Env w) (ht : t.length≤maxLen) :
  Calls Tryz.prog 125 #[.string (bytesOf t)] w fun e w'=>NewEnd (newP t) e w'∧Below w.heap.size w w':=by
 have hsz : (bytesOf t).size = t.length:=bytesOf_size t
 have hmm:=@run_makeMap Tryz.prog
 unfold maxLen at ht
 by_cases hl : 65536 < t.length
 ·have HE:=Lib.hid (newP_long hl)
  go_enter Tryz.func125,Tryz.ntmps125
  go_wp2
  go_ret3
  exact ⟨NewEnd.err HE.out,Below.refl _ _⟩
 ·have HG:=Lib.hid (newP_go hl)
  obtain ⟨m,hm⟩:=hE.max
  have Hm:=Lib.hid hm
  clear hm
  go_enter Tryz.func125,Tryz.ntmps125
  have hkey : keyOf Tryz.prog 9 (.string ⟨#[79,116,104,101,114]⟩) = some (.string otherL):=keyS (n:=otherL) (by decide)
  have ho0:=World.ownsMap_made (H:=Unit) (w.alloc (.cells #[.string (bytesOf otherL)] 9)) Tryz.prog 9 (plainElem (H:=Unit) Tryz.prog 3)
  rw [show (w.alloc (.cells #[.string (bytesOf otherL)] 9)).heap.size = w.heap.size+1 by simp] at ho0
  go_wp2_with ((refine wpList_insert_own _ rfl _ _ _ 171 rfl 9 3 keyedS Tryz.underlying171 _ (w.heap.size+1) 0 (.map []) rfl ho0 (by unfold maxLen;omega) _ _ (.string otherL) rfl rfl hkey _ [] (plainElem_int Tryz.underlying3 (WalkArith.wf_i64 (by omega))) ?_;intro w2 hown2 hg2))
  have hF:=dbX_first rfl hown2 hg2
  have hg2s:=hg2.size
  obtain ⟨hX,hB0⟩:=hF
  have hsx : w2.heap.size+2 = (((w2.alloc (.cells #[.slice none 0 0] 218)).alloc (.cells #[.slice (some ⟨w.heap.size,0,none⟩) 1 1,.map (some (w.heap.size+1)),.slice (some ⟨w2.heap.size,0,none⟩) 1 1,.slice none 0 0] 174))).heap.size:=by simp
  generalize ((w2.alloc (.cells #[.slice none 0 0] 218)).alloc (.cells #[.slice (some ⟨w.heap.size,0,none⟩) 1 1,.map (some (w.heap.size+1)),.slice (some ⟨w2.heap.size,0,none⟩) 1 1,.slice none 0 0] 174)) = w3 at hX hB0 hsx ⊢
  rw [hsx] at hX
  have HS:=Lib.hid (Tryz.strings_Split (bytesOf t) ⟨#[10]⟩ m w3 (by omega) (cell_keep Hm.out hB0) (show 1≤1 by omega))
  obtain ⟨L,HL⟩ : ∃ L,Hid (splitL t = L):=⟨_,rfl⟩
  have hsp:=split_lines (bytesOf t)
  have hc0:=Lib.splitB_all ⟨#[10]⟩ (show 1≤1 by omega) 0 _ (bytesOf t) rfl
  rw [bytesOf_list,HL.out,show bytesOf [10] = ⟨#[10]⟩ from rfl] at hsp
  generalize Lib.splitB ⟨#[10]⟩ 0 (Lib.countB (bytesOf t) ⟨#[10]⟩) (bytesOf t) = SP at HS hsp hc0
  have hcount : Lib.countB (bytesOf t) ⟨#[10]⟩+1 = L.length:=by rw [← hc0,← hsp,List.length_map]
  rw [hcount] at HS
  have HLl:=Lib.hid (fun i l (h : L[i]? = some l)=>line_len (t:=t) (i:=i) (l:=l) (by rw [HL.out];exact h))
  have HLn : Hid (L.length≤65537):=Lib.hid (by rw [← HL.out,splitL_count];have:=List.count_le_length (a:=(10 : UInt8)) (l:=t);omega)
  have HSP : Hid (∀ i l,L[i]? = some l→SP[i]? = some (bytesOf l)):=Lib.hid (fun i l h=>by
   rw [← hsp,List.getElem?_map] at h
   cases hq : SP[i]? with
   | none=>rw [hq] at h;cases h
   | some s=>rw [hq] at h;simp at h;rw [← h,bytesOf_data])
  have HNP : Hid (newP t = linesGo DbP.first L 0):=Lib.hid (by rw [HG.out,HL.out])
  have hX4:=hX.below ((Below.refl _ _).alloc (Nat.le_refl _) (.cells (SP.map Value.string).toArray 9))
  have hB4 : Below w.heap.size w (w3.alloc (.cells (SP.map Value.string).toArray 9)):=hB0.alloc (by have:=hB0.size;omega) _
  have hb4:=Blk.new w3 9 (SP.map Value.string).toArray
  have hx4 : w3.heap.size < (w3.alloc (.cells (SP.map Value.string).toArray 9)).heap.size:=by simp
  refine HS.out.mono ?_
  rintro e w4 ⟨rfl,rfl⟩
  clear hX hB0 HS HG HL hc0 hsp hcount Hm hown2 hg2 hg2s hsx ho0 hmm hkey
  generalize w3.alloc (.cells (SP.map Value.string).toArray 9) = w4 at hX4 hB4 hb4 hx4 ⊢
  generalize w3.heap.size = x at hX4 hb4 hx4 ⊢
  generalize w2.heap.size+1 = p at hX4 ⊢
  have hsw:=hB4.size
  have HCell : Hid (∀ i l,L[i]? = some l→w4.cell? ⟨x,i,none⟩ = some (.string (bytesOf l))):=Lib.hid (fun i l h=>by
   rw [hb4.cell i];have:=HSP.out i l h;simp [this])
  clear hb4 HSP
  go_wp2_with fail
  go_loopw [21] (fun v wr=>∃ (i : Nat) (d : DbP),v = .int .i64 i∧i≤L.length∧DbB wr w.heap.size p x d∧wr.heap[x]? = w4.heap[x]?∧Hid (NewAt L i d)∧Below w.heap.size w wr∧x < wr.heap.size) (fun v _=>L.length - (intOf v).toNat)
  case atStart=>exact ⟨0,DbP.first,rfl,by omega,⟨_,_,_,_,_,_,_,_,_,_,hX4⟩,rfl,newAt_first L,hB4,hx4⟩
  case round =>
   clear hX4
   obtain ⟨i,d,rfl,hi,hd,hxr,HN,hb,hxl⟩:=hrel
   have hszr:=hb.size
   by_cases hlt : i < L.length
   ·obtain ⟨l,Hl⟩ : ∃ l,Hid (L[i]? = some l):=⟨_,Lib.hid (List.getElem?_eq_getElem hlt)⟩
    have hcell : wr.cell? ⟨x,i,none⟩ = some (.string (bytesOf l)):=(World.cell?_of_block hxr).trans (HCell.out i l Hl.out)
    have hll:=HLl.out i l Hl.out
    have hlu:=lineU_len l
    have HW:=Lib.hid (wline_any (bytesOf l) wr (hE.tabs.below (hb.mono (Nat.le_refl _))) (by rw [bytesOf_size];omega))
    rw [bytesOf_list] at HW
    have HN2:=HLn.out
    by_cases hu : lineU l = []
    ·have hem : (bytesOf (lineU l)).toList.isEmpty = true:=by rw [ByteArray.toList_eq,bytesOf_list,hu];rfl
     have HN':=Lib.hid (newAt_next HN.out Hl.out (step_nil hu))
     clear hu
     go_wp2_with (go_at_call 172;refine HW.out.mono ?_;rintro e w5 ⟨rfl,hb5⟩)
     go_roundw
     case rel=>exact ⟨i+1,d,by go_num,by omega,hd.below hb5,(hb5.block x hxl).trans hxr,HN',below_step hb hb5 hszr,Nat.lt_of_lt_of_le hxl hb5.size⟩
     case measure=>simp [intOf];omega
    ·have hem : (bytesOf (lineU l)).toList.isEmpty = false:=by
      rw [ByteArray.toList_eq,bytesOf_list]
      cases hq : lineU l with
      | nil=>exact absurd hq hu
      | cons a b=>rfl
     have HST:=Lib.hid (step_add (d:=d) hu)
     clear hu
     go_wp2_with fail
     refine HW.out.mono ?_
     rintro e w5 ⟨rfl,hb5⟩
     have hb5w:=below_step hb hb5 hszr
     have hx5:=Nat.lt_of_lt_of_le hxl hb5.size
     have hxr5:=(hb5.block x hxl).trans hxr
     have HA:=Lib.hid (wadd_any p w.heap.size x d (lineU l) w5 (hd.below hb5) HN.out.2.2.1 hx5 hb5w.size (hE.tabs.below hb5w) (hE.max.below hb5w) (by omega))
     go_wp2_with fail
     refine HA.out.mono ?_
     rintro e w6 ⟨hk,hae⟩
     have hb6:=hb5w.trans hk.1
     cases hs : addS d (lineU l) with
     | error k =>
      rw [hs] at hae HST
      have he : e = .returned (.int .i64 k):=hae
      subst he
      have hk0 : ((k : Int) != 0) = true:=by rw [bne_iff_ne];have:=addS_err hs;omega
      have HE:=Lib.hid (HNP.out.trans (newAt_err HN.out Hl.out HST.out))
      clear hs hae
      go_wp2
      go_ret3
      exact ⟨NewEnd.err HE.out,hb6⟩
     | ok d' =>
      rw [hs] at hae HST
      obtain ⟨rfl,hd'⟩:=hae
      have HN':=Lib.hid (newAt_next HN.out Hl.out HST.out)
      clear hs
      go_wp2
      go_roundw
      case rel=>exact ⟨i+1,d',by go_num,by omega,hd',(hk.2 hx5).trans hxr5,HN',hb6,Nat.lt_of_lt_of_le hx5 hk.1.size⟩
      case measure=>simp [intOf];omega
   ·have HE:=Lib.hid (HNP.out.trans (newAt_end HN.out hlt))
    have HC:=Lib.hid (wclose_any p w.heap.size x d wr hd HN.out.2.2.1 HN.out.2.2.2 hszr)
    go_wp2_with (go_at_call 174;refine HC.out.mono ?_;rintro e w5 ⟨rfl,hda,hb5⟩)
    go_ret3
    exact ⟨NewEnd.fine HE.out hda,hb.trans hb5⟩
end
section
open Go.ChangeShapes Go.WideShapes Go.ChangeAt Go.RowKit Go.Lib Go.Shelf
theorem ownK : ownKnob Tryz.prog.godebug = none:=by kernel_rfl
theorem accept_eq : (Rows.laid_unicode_utf8_acceptRanges : DataW Unit) = acceptData:=by kernel_rfl
theorem tabs_of_laid {W : World} (hL : laidMetH Tryz.prog Rows.graphemeSafeRow.laid W) : Tabs W:=by
 have h1:=laidMet.reads hL (.tail _ (.tail _ (.tail _ (.tail _ (.tail _ (.tail _ (.head _)))))))
 have h2:=laidMet.reads hL (.tail _ (.tail _ (.tail _ (.head _))))
 rw [show (Rows.laid_unicode_utf8_first : DataW Unit) = firstData from Pinned.utf8First_eq] at h1
 rw [accept_eq] at h2
 exact utf8Tabs_of_reads (ρ:=Tryz.lays260_ren) { Tryz.lays260 with } ⟨by kernel_rfl,by kernel_rfl,by kernel_rfl,by kernel_rfl,by kernel_rfl,by kernel_rfl,by kernel_rfl⟩ h1 h2
def deB64 : List Int:=[0,1,56,2,57,49,28,3,61,58,42,50,38,29,17,4,62,47,59,36,45,43,51,22,53,39,33,30,24,18,12,5,63,55,48,27,60,41,37,16,46,35,44,21,52,32,23,11,54,26,40,15,34,20,31,10,25,14,19,9,13,8,7,6]
theorem tabB_of_laid {W : World} (hL : laidMetH Tryz.prog Rows.graphemeSafeRow.laid W) : TabB W:=by
 have h:=laidMet.reads hL (.tail _ (.head _))
 rw [show (Rows.laid_math_bits_deBruijn64tab : DataW Unit) = tabData .u8 deB64 by kernel_rfl] at h
 obtain ⟨g,t,cs,fuel,p,hg,hty,hvar,hd⟩:=h
 obtain rfl := Option.some.inj ((show Tryz.prog.globalNamed "math/bits.deBruijn64tab" = some 7 by kernel_rfl).symm.trans hg)
 obtain rfl:=Option.some.inj ((show (Tryz.prog.globals[(7 : Nat)]?).map (·.type) = some 385 by kernel_rfl).symm.trans hty)
 have hcs:=cells_of_tab Tryz.underlying385 Tryz.underlying5 (by kernel_rfl) (by kernel_rfl) hd
 have:=World.var?_cell hg hvar 15
 unfold TabB
 rw [this,← Array.getElem?_toList,hcs];rfl
theorem env_of_laid {W : World} (hL : laidMetH Tryz.prog Rows.graphemeSafeRow.laid W) (hS : W.ShapedOpen Tryz.prog) : Env W :=
 ⟨tabs_of_laid hL,cell_of_shapedOpen_int hS (g:=2) (t:=3) (zero:=#[.int .i64 0]) (of_decide_eq_true (by kernel_rfl)) (by kernel_rfl) rfl (by kernel_rfl) (by kernel_rfl) Tryz.underlying3,tabB_of_laid hL⟩
noncomputable def laidWorld (os : Os) : World :=
 let N:=(World.settled Tryz.prog os).heap.size
 let w0:=World.holding Tryz.prog os ⟨#[.cells #[.string ⟨#[118,97,108,117,101,32,111,117,116,32,111,102,32,114,97,110,103,101]⟩] 375,.cells #[.string ⟨#[105,110,118,97,108,105,100,32,115,121,110,116,97,120]⟩] 375],#[],[]⟩
 let put (h : Array Obj) (g : Nat) (cs : Array Value) : Array Obj:=h.modify g fun
  | .cells _ t frozen=>.cells cs t frozen
  | o=>o
 let h1:=put w0.heap 0 (firstTab.map fun z=>Value.int .u8 z).toArray
 let h2:=put h1 1 ((List.range 16).flatMap fun i=>[Value.int .u8 (accLo i),Value.int .u8 (accHi i)]).toArray
 let h3:=put h2 3 #[.iface 373 (.pointer (some ⟨N+1,0,none⟩))]
 let h4:=put h3 4 #[.iface 373 (.pointer (some ⟨N,0,none⟩))]
 let h5:=put h4 5 ((List.range 20).map fun i=>Value.int .u64 (10 ^ i : Nat)).toArray
 let h6:=put h5 6 ([0,1,28,2,29,14,24,3,30,22,20,15,25,17,4,8,31,27,13,23,21,19,16,7,26,12,18,6,11,5,10,9].map fun (z : Int)=>Value.int .u8 z).toArray
 let h7:=put h6 7 ([0,1,56,2,57,49,28,3,61,58,42,50,38,29,17,4,62,47,59,36,45,43,51,22,53,39,33,30,24,18,12,5,63,55,48,27,60,41,37,16,46,35,44,21,52,32,23,11,54,26,40,15,34,20,31,10,25,14,19,9,13,8,7,6].map fun (z : Int)=>Value.int .u8 z).toArray
 { w0 with heap:=h7 }
theorem laid_in (os : Os) (args : Array Value) : LaidIn Tryz.prog ((laidWorld os).forCall (fun _ _=>0) ⟨#[],args,[]⟩).memory Rows.graphemeSafeRow.laid [0,1,3,4,5,6,7,(World.settled Tryz.prog default).heap.size,(World.settled Tryz.prog default).heap.size+1] :=
 LaidIn.of_run [0,1,3,4,5,6,7,(World.settled Tryz.prog default).heap.size,(World.settled Tryz.prog default).heap.size+1] 8 (by kernel_rfl) (by kernel_rfl) (by kernel_rfl) (by kernel_rfl)
end
section
open Go.RowKit Go.Maps
end
section
open Go.RowKit Go.Maps
end
section
open Go.RowKit Go.Maps
theorem blk_true {c : UInt8} (h : (c.toNat : Int) = 32∨(c.toNat : Int) = 9) : blkB c = true:=by
 have h1 : c = 32 ↔ c.toNat = 32:=u8_eq (n:=32) (by omega)
 have h2 : c = 9 ↔ c.toNat = 9:=u8_eq (n:=9) (by omega)
 simp only [blkB,Bool.or_eq_true,beq_iff_eq,h1,h2];omega
theorem blk_false {c : UInt8} (h : ¬ ((c.toNat : Int) = 32∨(c.toNat : Int) = 9)) : blkB c = false:=by
 cases hb : blkB c with
 | false=>rfl
 | true =>
  have h1 : c = 32 ↔ c.toNat = 32:=u8_eq (n:=32) (by omega)
  have h2 : c = 9 ↔ c.toNat = 9:=u8_eq (n:=9) (by omega)
  refine absurd ?_ h
  simp only [blkB,Bool.or_eq_true,beq_iff_eq,h1,h2] at hb;omega
theorem vblank_any (c : UInt8) (w : World) : Calls Tryz.prog 279 #[.int .u8 (c.toNat : Int)] w fun e w'=>e = .returned (.bool (blkB c))∧w = w':=by
 have HT:=Lib.hid (@blk_true c)
 have HF:=Lib.hid (@blk_false c)
 generalize (c.toNat : Int) = z at HT HF
 rcases (by omega : z = 32∨z = 9∨(z ≠ 32∧z ≠ 9)) with h | h | ⟨h,h'⟩
 ·have HV:=Lib.hid (HT.out (.inl h))
  subst h
  go_enter Tryz.func279,Tryz.ntmps279
  go_wp2
  go_ret
  exact ⟨by rw [HV.out];rfl,rfl⟩
 ·have HV:=Lib.hid (HT.out (.inr h))
  subst h
  go_enter Tryz.func279,Tryz.ntmps279
  go_wp2
  go_ret
  exact ⟨by rw [HV.out];rfl,rfl⟩
 ·have HV:=Lib.hid (HF.out (by omega))
  have h1 : (z == 32) = false:=beq_eq_false_iff_ne.2 h
  have h2 : (z == 9) = false:=beq_eq_false_iff_ne.2 h'
  go_enter Tryz.func279,Tryz.ntmps279
  go_wp2
  go_ret
  exact ⟨by rw [HV.out];rfl,rfl⟩
def strSize : Value→Nat
 | .string s=>s.size
 | _=>0
theorem vtrim_any (L : List UInt8) (w : World) (hL : L.length≤1000000) : Calls Tryz.prog 230 #[.string (bytesOf L)] w fun e w'=>e = .returned (.string (bytesOf (trimL L)))∧w = w':=by
 have HTE:=Lib.hid (trimL_eq L)
 go_enter Tryz.func230,Tryz.ntmps230
 go_wp2
 go_loopw [0] (fun v wr=>∃ l : List UInt8,v = .string (bytesOf l)∧l.length≤L.length∧Hid (l.dropWhile blkB = L.dropWhile blkB)∧wr = w) (fun v _=>strSize v)
 case atStart=>exact ⟨L,rfl,by omega,rfl,rfl⟩
 case round =>
  obtain ⟨l,rfl,hl,HD,rfl⟩:=hrel
  have hsz : (bytesOf l).size = l.length:=bytesOf_size l
  by_cases hb : ∃ c r,l = c :: r∧blkB c = true
  ·obtain ⟨c,r,rfl,hc⟩:=hb
   have h0 : 0 < (bytesOf (c :: r)).size:=by rw [hsz];simp
   have hix:=index_at (bytesOf (c :: r)) 0 0 rfl h0
   have hg : (bytesOf (c :: r))[0]'h0 = c:=by have:=get_list h0;rw [bytesOf_list] at this;simpa using this.symm
   rw [hg] at hix
   have hgi : (((bytesOf (c :: r))[0]'h0).toNat : Int) = (c.toNat : Int):=by rw [hg]
   have HX:=Lib.hid (ext_bytes (c :: r) 1)
   rw [hsz] at HX
   have hl2 : (r.length : Int)+1≤1000000:=by simp at hl;omega
   clear hg
   go_wp2_with (go_at_call 279;refine (vblank_any c _).mono ?_;rw [hc];rintro e w' ⟨rfl,rfl⟩)
   go_roundw
   case rel=>exact ⟨r,by first | exact congrArg Value.string HX.out | (rw [← ext_bytes (c :: r) 1];rfl),by simp at hl;omega,Lib.hid (by rw [← HD.out,drop_blank hc]),by first | rfl | trivial⟩
   case measure=>simp only [strSize,ByteArray.size_extract,bytesOf_size,List.length_cons];omega
  ·have HLD : Hid (l = L.dropWhile blkB):=Lib.hid (by
    rw [← HD.out]
    cases l with
    | nil=>rfl
    | cons c r =>
     have : blkB c = false:=by
      cases hq : blkB c with
      | false=>rfl
      | true=>exact absurd ⟨c,r,rfl,hq⟩ hb
     exact (dropWhile_stop this).symm)
   have HTR : Hid (trimL L = trimR l):=Lib.hid (by rw [HTE.out,HLD.out])
   have hstop : l = []∨∃ c r,l = c :: r∧blkB c = false:=by
    cases l with
    | nil=>exact .inl rfl
    | cons c r =>
     refine .inr ⟨c,r,rfl,?_⟩
     cases hq : blkB c with
     | false=>rfl
     | true=>exact absurd ⟨c,r,rfl,hq⟩ hb
   clear hb HD HLD
   rcases hstop with rfl | ⟨c,r,rfl,hc⟩
   ·have HT0 : Hid (trimL L = []):=Lib.hid (by rw [HTR.out];rfl)
    have hz0 : (bytesOf []).size = 0:=rfl
    go_wp2_with fail
    go_loopw [0] (fun v wq=>v = .string (bytesOf [])∧wq = wr) (fun _ _=>0)
    case atStart=>exact ⟨rfl,rfl⟩
    case round =>
     obtain ⟨rfl,rfl⟩:=hrel
     go_wp2
     go_ret
     exact ⟨by rw [HT0.out];rfl,rfl⟩
   ·have h0 : 0 < (bytesOf (c :: r)).size:=by rw [hsz];simp
    have hix:=index_at (bytesOf (c :: r)) 0 0 rfl h0
    have hg : (bytesOf (c :: r))[0]'h0 = c:=by have:=get_list h0;rw [bytesOf_list] at this;simpa using this.symm
    rw [hg] at hix
    have hgi : (((bytesOf (c :: r))[0]'h0).toNat : Int) = (c.toNat : Int):=by rw [hg]
    clear hg
    go_wp2_with (go_at_call 279;refine (vblank_any c _).mono ?_;rw [hc];rintro e w' ⟨rfl,rfl⟩)
    go_loopw [0] (fun v wq=>∃ l : List UInt8,v = .string (bytesOf l)∧l.length≤L.length∧Hid (trimR l = trimL L)∧wq = wr) (fun v _=>strSize v)
    case atStart=>exact ⟨c :: r,rfl,hl,Lib.hid HTR.out.symm,rfl⟩
    case round =>
     clear hix hgi h0
     obtain ⟨l,rfl,hl2,HD,rfl⟩:=hrel
     have hsz2 : (bytesOf l).size = l.length:=bytesOf_size l
     rcases List.eq_nil_or_concat l with rfl | ⟨o,y,rfl⟩
     ·have HT0 : Hid (trimL L = []):=Lib.hid (by rw [← HD.out];rfl)
      have hz0 : (bytesOf []).size = 0:=rfl
      go_wp2
      go_ret
      exact ⟨by rw [HT0.out];rfl,rfl⟩
     ·rw [List.concat_eq_append] at *
      have hlast : (o++[y]).getLast? = some y:=by simp
      have hol : (o++[y]).length = o.length+1:=by simp
      rw [hol] at hsz2 hl2
      have hp : o.length < (bytesOf (o++[y])).size:=by omega
      have hix:=index_at (bytesOf (o++[y])) ((o.length : Int)+1 - 1) o.length (by omega) hp
      have hix2:=index_at (bytesOf (o++[y])) (o.length : Int) o.length rfl hp
      have hg : (bytesOf (o++[y]))[o.length]'hp = y:=by have:=get_list hp;rw [bytesOf_list] at this;simpa using this.symm
      rw [hg] at hix hix2
      have hgi : (((bytesOf (o++[y]))[o.length]'hp).toNat : Int) = (y.toNat : Int):=by rw [hg]
      clear hg
      cases hy : blkB y with
      | true =>
       have HX : Hid ((bytesOf (o++[y])).extract 0 o.length = bytesOf o):=Lib.hid (by rw [ext_bytes0];simp)
       have HD' : Hid (trimR o = trimL L):=Lib.hid (by rw [← HD.out,(trim_last hlast).1 hy,hol,Nat.add_sub_cancel];simp)
       go_wp2_with (go_at_call 279;refine (vblank_any y _).mono ?_;rw [hy];rintro e w' ⟨rfl,rfl⟩)
       go_roundw
       case rel=>exact ⟨o,congrArg Value.string HX.out,by omega,HD',by first | rfl | trivial⟩
       case measure=>simp only [strSize,ByteArray.size_extract,bytesOf_size,List.length_append,List.length_singleton];omega
      | false =>
       have HD' : Hid (trimL L = o++[y]):=Lib.hid (by rw [← HD.out,(trim_last hlast).2 hy])
       go_wp2_with (go_at_call 279;refine (vblank_any y _).mono ?_;rw [hy];rintro e w' ⟨rfl,rfl⟩)
       go_ret
       exact ⟨by rw [HD'.out];rfl,rfl⟩
end
section
open Go.RowKit Go.Maps
theorem Rd.atS {w : World} {A : Option Addr} {l : List (List UInt8)} {k : Nat} {x : List UInt8} (h : Rd w 1 A (l.map encNm)) (hk : l[k]? = some x) : ∃ b off,A = some ⟨b,off,none⟩∧w.cell? ⟨b,off+k,none⟩ = some (.string (bytesOf x)):=by
 obtain ⟨b,off,rfl,hc⟩:=h (by intro e;cases l with | nil=>simp at hk | cons _ _=>simp at e)
 have h0:=hc k 0 (encNm x) (.string (bytesOf x)) (by simp [hk]) rfl
 exact ⟨b,off,rfl,by simpa using h0⟩
end
section
open Go.RowKit Go.Maps
structure RfX (w : World) (base p x : Nat) (An : Option Addr) (nn cn : Nat) (As : Option Addr) (ns cs : Nat) (xs : List (Option Addr × Nat × Nat)) (N : List (List UInt8)) (S : List (List (Int × Int))) : Prop where
 blk : Blk w p 194 #[.slice An nn cn,.slice As ns cs]
 pb : base≤p
 hn : Own w base 9 1 An nn cn (N.map encNm)
 hs : Own w base 218 1 As ns cs (xs.map encSl)
 hx : Sets w base xs S
 xp : x ≠ p
 xn : ∀ a,An = some a→a.block ≠ x
 xs_ : ∀ a,As = some a→a.block ≠ x
structure RfB (w : World) (base p x : Nat) (N : List (List UInt8)) (S : List (List (Int × Int))) : Prop where
 ex : ∃ (An : Option Addr) (nn cn : Nat) (As : Option Addr) (ns cs : Nat) (xs : List (Option Addr × Nat × Nat)),RfX w base p x An nn cn As ns cs xs N S
section
variable {w w' : World} {base p x : Nat} {An : Option Addr} {nn cn : Nat} {As : Option Addr} {ns cs : Nat} {xs : List (Option Addr × Nat × Nat)} {N : List (List UInt8)} {S : List (List (Int × Int))}
theorem RfX.below (h : RfX w base p x An nn cn As ns cs xs N S) (hb : Below w.heap.size w w') : RfX w' base p x An nn cn As ns cs xs N S:=⟨h.blk.below hb,h.pb,h.hn.below hb,h.hs.below hb,h.hx.below hb,h.xp,h.xn,h.xs_⟩
theorem RfB.below (h : RfB w base p x N S) (hb : Below w.heap.size w w') : RfB w' base p x N S:=by
 obtain ⟨a1,a2,a3,a4,a5,a6,a7,h⟩:=h.ex
 exact ⟨a1,a2,a3,a4,a5,a6,a7,h.below hb⟩
theorem RfX.lenN (h : RfX w base p x An nn cn As ns cs xs N S) : N.length = nn:=by simpa using h.hn.len
theorem RfX.lenS (h : RfX w base p x An nn cn As ns cs xs N S) : xs.length = ns∧S.length = ns:=by
 have:=h.hs.len;rw [List.length_map] at this
 exact ⟨this,by rw [← h.hx.len];exact this⟩
theorem types_rf : (9 : TypeId) ≠ 218∧(9 : TypeId) ≠ 194∧(218 : TypeId) ≠ 194∧(9 : TypeId) ≠ 248∧(218 : TypeId) ≠ 248∧(194 : TypeId) ≠ 248:=by decide
theorem RfX.named {w3 : World} {o : Obj} {n : List UInt8} {A3 : Option Addr} {c3 : Nat} (h : RfX w base p x An nn cn As ns cs xs N S) (ho3 : Own w3 base 9 1 A3 (nn+1) c3 ((N++[n]).map encNm))
  (hg3 : (w.alloc o).grownBy w3 (An.map (·.block))) (hA3 : A3 = An∨A3 = some ⟨(w.alloc o).heap.size,0,none⟩) (hx : x < w.heap.size) (hB : base≤w.heap.size) :
  Blk w3 p 194 #[.slice An nn cn,.slice As ns cs]∧RfX (w3.setCell ⟨p,0,none⟩ (.slice A3 (nn+1) c3)) base p x A3 (nn+1) c3 As ns cs xs (N++[n]) S ∧
   KX base x w (w3.setCell ⟨p,0,none⟩ (.slice A3 (nn+1) c3))∧KeepR base w (w3.setCell ⟨p,0,none⟩ (.slice A3 (nn+1) c3)):=by
 obtain ⟨t1,t2,t3,t4,t5,t6⟩:=types_rf
 have hg:=grown_alloc hg3
 have b3 : Blk w3 p 194 #[.slice An nn cn,.slice As ns cs]:=h.blk.grown hg (fun e=>by cases An with | none=>cases e | some a=>simp at e;exact h.hn.off h.blk t2 a rfl e.symm)
 have s3 : Own w3 base 218 1 As ns cs (xs.map encSl):=h.hs.grown hg (fun a ha e=>by cases An with | none=>cases e | some b=>simp at e;exact h.hn.apart h.hs t1 b a rfl ha e.symm)
 have x3 : Sets w3 base xs S:=h.hx.grown hg (fun g q e=>own_not_R h.hn t4 g q e)
 have hxA3 : ∀ a,A3 = some a→a.block ≠ x:=fun a ha=>by
  rcases hA3 with e | e
  ·exact h.xn a (by rw [← e];exact ha)
  ·rw [e] at ha;injection ha with ha;subst ha;simp;omega
 refine ⟨b3,⟨?_,h.pb,?_,?_,?_,h.xp,hxA3,h.xs_⟩,?_,?_⟩
 ·have:=b3.set_ 0 (.slice A3 (nn+1) c3)
  simpa using this
 ·exact ho3.setCell (fun a ha=>ho3.off b3 t2 a ha) _
 ·exact s3.setCell (fun a ha=>s3.off b3 t3 a ha) _
 ·exact x3.setCell (blk_not_R b3 t6) _
 ·refine (KX.grown hg hB (fun k hk=>?_)).trans (KX.setCell w3 h.pb (fun e=>h.xp e.symm) _)
  cases An with
  | none=>cases hk
  | some a=>simp at hk;subst hk;exact ⟨(h.hn.lt a rfl).1,h.xn a rfl⟩
 ·exact (KeepR.grown hg (fun g q e=>own_not_R h.hn t4 g q e)).trans (KeepR.setCell (blk_not_R b3 t6) _)
theorem RfX.moreSet {w3 : World} {o : Obj} {A3 : Option Addr} {c3 : Nat} (h : RfX w base p x An nn cn As ns cs xs N S) (ho3 : Own w3 base 218 1 A3 (ns+1) c3 ((xs++[(none,0,0)]).map encSl))
  (hg3 : (w.alloc o).grownBy w3 (As.map (·.block))) (hA3 : A3 = As∨A3 = some ⟨(w.alloc o).heap.size,0,none⟩) (hx : x < w.heap.size) (hB : base≤w.heap.size) :
  Blk w3 p 194 #[.slice An nn cn,.slice As ns cs]∧RfX (w3.setCell ⟨p,1,none⟩ (.slice A3 (ns+1) c3)) base p x An nn cn A3 (ns+1) c3 (xs++[(none,0,0)]) N (S++[[]]) ∧
   KX base x w (w3.setCell ⟨p,1,none⟩ (.slice A3 (ns+1) c3))∧KeepR base w (w3.setCell ⟨p,1,none⟩ (.slice A3 (ns+1) c3)):=by
 obtain ⟨t1,t2,t3,t4,t5,t6⟩:=types_rf
 have hg:=grown_alloc hg3
 have b3 : Blk w3 p 194 #[.slice An nn cn,.slice As ns cs]:=h.blk.grown hg (fun e=>by cases As with | none=>cases e | some a=>simp at e;exact h.hs.off h.blk t3 a rfl e.symm)
 have n3 : Own w3 base 9 1 An nn cn (N.map encNm):=h.hn.grown hg (fun a ha e=>by cases As with | none=>cases e | some b=>simp at e;exact h.hn.apart h.hs t1 a b ha rfl e)
 have x3 : Sets w3 base xs S:=h.hx.grown hg (fun g q e=>own_not_R h.hs t5 g q e)
 have hxA3 : ∀ a,A3 = some a→a.block ≠ x:=fun a ha=>by
  rcases hA3 with e | e
  ·exact h.xs_ a (by rw [← e];exact ha)
  ·rw [e] at ha;injection ha with ha;subst ha;simp;omega
 refine ⟨b3,⟨?_,h.pb,?_,?_,?_,h.xp,h.xn,hxA3⟩,?_,?_⟩
 ·have:=b3.set_ 1 (.slice A3 (ns+1) c3)
  simpa using this
 ·exact n3.setCell (fun a ha=>n3.off b3 t2 a ha) _
 ·exact ho3.setCell (fun a ha=>ho3.off b3 t3 a ha) _
 ·exact (x3.setCell (blk_not_R b3 t6) _).snoc (Own.nil_ _ _ _ _)
 ·refine (KX.grown hg hB (fun k hk=>?_)).trans (KX.setCell w3 h.pb (fun e=>h.xp e.symm) _)
  cases As with
  | none=>cases hk
  | some a=>simp at hk;subst hk;exact ⟨(h.hs.lt a rfl).1,h.xs_ a rfl⟩
 ·exact (KeepR.grown hg (fun g q e=>own_not_R h.hs t5 g q e)).trans (KeepR.setCell (blk_not_R b3 t6) _)
theorem RfX.storeSet {g k b' : Nat} {y : Option Addr × Nat × Nat} {l : List (Int × Int)} (h : RfX w base p x An nn cn (some ⟨g,0,none⟩) ns cs xs N S) (hk : k < ns) (ho : Own w b' 248 2 y.1 y.2.1 y.2.2 (l.map encR)) (hb : base≤b') :
  RfX (w.setCell ⟨g,k,none⟩ (.slice y.1 y.2.1 y.2.2)) base p x An nn cn (some ⟨g,0,none⟩) ns cs (xs.set k y) N (S.set k l)∧KX base x w (w.setCell ⟨g,k,none⟩ (.slice y.1 y.2.1 y.2.2)):=by
 obtain ⟨t1,t2,t3,t4,t5,t6⟩:=types_rf
 have hgp : g ≠ p:=h.hs.off h.blk t3 _ rfl
 refine ⟨⟨h.blk.far (p:=⟨g,k,none⟩) (Ne.symm hgp) _,h.pb,?_,?_,?_,h.xp,h.xn,h.xs_⟩,KX.setCell w (q:=⟨g,k,none⟩) (h.hs.lt _ rfl).1 (h.xs_ ⟨g,0,none⟩ rfl) _⟩
 ·exact h.hn.setCell (p:=⟨g,k,none⟩) (fun a ha e=>h.hn.apart h.hs t1 a ⟨g,0,none⟩ ha rfl e) _
 ·exact h.hs.storedSl (by rw [h.lenS.1];exact hk) y
 ·refine Sets.set_ (h.hx.setCell (q:=⟨g,k,none⟩) (fun r=>own_not_R h.hs t5 g r rfl) _) ?_
  exact (ho.setCell (p:=⟨g,k,none⟩) (fun a ha e=>ho.apart h.hs (Ne.symm t5) a ⟨g,0,none⟩ ha rfl e) _).more hb
end
theorem bytes_inj {a b : List UInt8} : bytesOf a = bytesOf b ↔ a = b:=⟨fun h=>by rw [← bytesOf_list a,← bytesOf_list b,h],fun h=>by rw [h]⟩
theorem idx_step {N : List (List UInt8)} {n y : List UInt8} {i : Nat} (h : n ∉ N.take i) (hy : N[i]? = some y) : (y = n→N.idxOf? n = some i)∧(y ≠ n→n ∉ N.take (i+1)):=by
 constructor
 ·rintro rfl
  rw [List.idxOf?,List.findIdx?_eq_some_iff_getElem]
  obtain ⟨hlt,e⟩:=List.getElem?_eq_some_iff.1 hy
  refine ⟨hlt,by simp [e],fun j hj=>?_⟩
  simp only [Bool.not_eq_true,beq_eq_false_iff_ne]
  intro hjy
  exact h (List.mem_take_iff_getElem.2 ⟨j,by omega,by simpa using hjy⟩)
 ·intro hne hm
  rw [List.take_add_one,hy] at hm
  simp at hm
  rcases hm with hm | hm
  ·exact h hm
  ·exact hne hm.symm
theorem idx_none {N : List (List UInt8)} {n : List UInt8} (h : n ∉ N) : N.idxOf? n = none:=by
 rw [List.idxOf?,List.findIdx?_eq_none_iff]
 intro x hx
 simp only [beq_eq_false_iff_ne]
 rintro rfl;exact h hx
theorem vClass_any (base p x : Nat) (N : List (List UInt8)) (S : List (List (Int × Int))) (n : List UInt8) (w : World) (h : RfB w base p x N S) (hN : N.length≤1000000) :
  Calls Tryz.prog 234 #[.pointer (some ⟨p,0,none⟩),.string (bytesOf n)] w fun e w'=>e = .returned (.tuple #[.int .i64 (((N.idxOf? n).getD 0 : Nat) : Int),.bool (N.idxOf? n).isSome])∧w = w':=by
 obtain ⟨An,nn,cn,As,ns,cs,xs,hX⟩:=h.ex
 have hl:=hX.lenN
 have Hl:=Lib.hid hl
 have hrd:=hX.hn.rd (by omega)
 have c0:=hX.blk.cell 0
 simp only [zG,zH] at c0
 have hnn : nn≤1000000:=by omega
 clear hl h
 go_enter Tryz.func234,Tryz.ntmps234
 go_wp2
 go_loopw [6] (fun v wr=>∃ i : Nat,v = .int .i64 i∧i≤nn∧Hid (n ∉ N.take i)∧wr = w) (fun v _=>nn - (intOf v).toNat)
 case atStart=>exact ⟨0,rfl,by omega,by simp [Hid],rfl⟩
 case round =>
  obtain ⟨i,rfl,hi,HN,rfl⟩:=hrel
  by_cases hlt : i < nn
  ·obtain ⟨y,Hy⟩ : ∃ y,Hid (N[i]? = some y):=⟨_,Lib.hid (List.getElem?_eq_getElem (show i < N.length by have:=Hl.out;omega))⟩
   obtain ⟨b,off,rfl,hc⟩:=hrd.atS Hy.out
   have HI:=Lib.hid (idx_step HN.out Hy.out)
   by_cases hyn : y = n
   ·have HE:=Lib.hid (HI.out.1 hyn)
    subst hyn
    go_wp2
    go_ret2
    exact ⟨by rw [HE.out];rfl,rfl⟩
   ·have HE:=Lib.hid (HI.out.2 hyn)
    have e1 : ((bytesOf y).toList == (bytesOf n).toList) = false:=by rw [ByteArray.toList_eq,ByteArray.toList_eq,bytesOf_list,bytesOf_list];exact beq_eq_false_iff_ne.2 hyn
    have e3 : decide (bytesOf y = bytesOf n) = false:=decide_eq_false (fun k=>hyn (bytes_inj.1 k))
    clear hyn
    go_wp2
    go_roundw
    case rel=>exact ⟨i+1,by go_num,by omega,HE,by first | rfl | trivial⟩
    case measure=>simp [intOf];omega
  ·have HE:=Lib.hid (idx_none (N:=N) (n:=n) (by have:=HN.out;rwa [List.take_of_length_le (by have:=Hl.out;omega)] at this))
   go_wp2
   go_ret2
   exact ⟨by rw [HE.out];rfl,rfl⟩
end
section
open Go.RowKit
theorem run_split {s : ByteArray} {a x : Nat} {q : UInt8→Bool} (hax : a≤x) (hx : x≤s.size) (h : (s.data.toList.drop a).takeWhile q = (s.data.toList.drop a).take (x - a)++(s.data.toList.drop x).takeWhile q) (hd : (s.data.toList.drop a).dropWhile q = (s.data.toList.drop x).dropWhile q)
  (hstop : ∀ b,(s.data.toList.drop x).head? = some b→q b = false) : (s.data.toList.drop a).takeWhile q = (s.extract a x).data.toList∧(s.data.toList.drop a).dropWhile q = s.data.toList.drop x∧((s.data.toList.drop a).takeWhile q).length = x - a:=by
 have e0 : (s.data.toList.drop x).takeWhile q = []:=by
  cases hl : s.data.toList.drop x with
  | nil=>rfl
  | cons b l=>rw [List.takeWhile_cons,if_neg (by rw [hstop b (by rw [hl];rfl)];simp)]
 have e1 : (s.data.toList.drop x).dropWhile q = s.data.toList.drop x:=by
  cases hl : s.data.toList.drop x with
  | nil=>rfl
  | cons b l=>rw [List.dropWhile_cons,if_neg (by rw [hstop b (by rw [hl];rfl)];simp)]
 have e2 : (s.extract a x).data.toList = (s.data.toList.drop a).take (x - a):=by
  rw [ByteArray.data_extract,Array.toList_extract,List.extract_eq_take_drop]
 rw [e0,List.append_nil] at h
 refine ⟨by rw [h,e2],by rw [hd,e1],?_⟩
 rw [h,List.length_take,List.length_drop,size_data]
 omega
theorem take_step (s : ByteArray) {a x : Nat} {b : UInt8} (hax : a≤x) (hd : s.data.toList.drop x = b :: s.data.toList.drop (x+1)) : (s.data.toList.drop a).take (x+1 - a) = (s.data.toList.drop a).take (x - a)++[b]:=by
 have h1 : (s.data.toList.drop a)[x - a]? = some b:=by
  rw [List.getElem?_drop,show a+(x - a) = x by omega]
  have:=congrArg List.head? hd
  rw [List.head?_drop] at this
  exact this
 rw [show x+1 - a = x - a+1 by omega,List.take_add_one,h1];rfl
theorem jname_any (p : Nat) (s : ByteArray) (A : Option Addr) (nn cn : Nat) (names : List (List UInt8)) (a d k i0 : Nat) (rest : List UInt8) (w : World) (h : RS w p s A nn cn names a d k) (ha : a≤s.size) (hs : s.size≤1000000) (hnz : nn≤1000000) (hP : pName names (s.data.toList.drop a) = some (i0,rest)) :
  Calls Tryz.prog 346 #[.pointer (some ⟨p,0,none⟩)] w fun e w'=>e = .returned (.int .i64 (i0 : Nat))∧∃ x,RS w' p s A nn cn names x d k∧s.data.toList.drop x = rest∧x≤s.size∧w.grownBy w' (some p):=by
 have HP:=Lib.hid hP
 have c0:=h.c0
 have c1:=h.c1
 clear hP
 go_enter Tryz.func346,Tryz.ntmps346
 go_wp2_with fail
 go_loopw [10] (fun _ wr=>∃ x : Nat,RS wr p s A nn cn names x d k∧a≤x∧x≤s.size∧Hid ((s.data.toList.drop a).takeWhile pPart = (s.data.toList.drop a).take (x - a)++(s.data.toList.drop x).takeWhile pPart)∧Hid ((s.data.toList.drop a).dropWhile pPart = (s.data.toList.drop x).dropWhile pPart)∧w.grownBy wr (some p)) (fun _ wr=>s.size - atOf wr p)
 case atStart=>exact ⟨a,h,by omega,ha,Lib.hid (by rw [Nat.sub_self];rfl),Lib.hid rfl,only_refl _ _⟩
 case round =>
  clear h c0 c1
  obtain ⟨x,hr,hax,hx,HT,HD,hg⟩:=hrel
  have c0:=hr.c0
  have c1:=hr.c1
  have c2:=hr.c2
  have f1:=hr.f 1
  have Hat:=Lib.hid hr.atOf
  by_cases hlt : x < s.size∧∃ b,(s.data.toList.drop x).head? = some b∧pPart b = true
  ·obtain ⟨hlt,b',hb',hpb⟩:=hlt
   obtain ⟨b,hd,hidx⟩:=byte_at s hlt
   replace hpb : pPart b = true:=by
    rw [hd] at hb'
    injection hb' with hb'
    rw [hb']
    exact hpb
   have HJ:=Lib.hid (fun q=>jpart_b b (wr.drewN q))
   rw [hpb] at HJ
   have HT2:=Lib.hid (show (s.data.toList.drop a).takeWhile pPart = (s.data.toList.drop a).take (x+1 - a)++(s.data.toList.drop (x+1)).takeWhile pPart by
    rw [HT.out,hd,List.takeWhile_cons,if_pos hpb,take_step s hax hd,List.append_assoc];rfl)
   have HD2:=Lib.hid (show (s.data.toList.drop a).dropWhile pPart = (s.data.toList.drop (x+1)).dropWhile pPart by
    rw [HD.out,hd,List.dropWhile_cons,if_pos hpb])
   clear hd hb'
   go_wp2_with fail
   go_quiet ((go_at_call 244;exact quiet_left (HJ.out _)))
   go_wp2
   have hr2:=(hr.drewN nq).setAt (x+1)
   have ez : ((x+1 : Nat) : Int) = (x : Int)+1:=by omega
   rw [ez] at hr2
   refine ⟨⟨x+1,hr2,by omega,by omega,HT2,HD2,only_setCell (only_drewN hg _) (.inl rfl) _⟩,?_⟩
   rw [hr2.atOf,Hat.out];omega
  ·have hstop : ∀ b,(s.data.toList.drop x).head? = some b→pPart b = false:=fun b hb=>by
    by_cases h1 : x < s.size
    ·cases hq : pPart b with
     | false=>rfl
     | true=>exact absurd ⟨h1,b,hb,hq⟩ hlt
    ·rw [drop_end s h1] at hb;cases hb
   obtain ⟨k1,k2,k3⟩:=run_split hax hx HT.out HD.out hstop
   obtain ⟨sub,hsub⟩ : ∃ sub,s.extract a x = sub:=⟨_,rfl⟩
   rw [hsub] at k1
   have HPn : Hid (x - a≤32∧names.findIdx? (fun y=>y == sub.data.toList) = some i0∧rest = s.data.toList.drop x):=Lib.hid (by
    have h1:=HP.out
    unfold pName at h1
    rw [k3,k1,k2] at h1
    split at h1
    ·cases h1
    ·rename_i h32
     split at h1
     ·cases h1
     ·rename_i j hj
      injection h1 with h1
      injection h1 with h1 h2
      exact ⟨by omega,by rw [hj,h1],h2.symm⟩)
   have HSz:=Lib.hid (show sub.size = x - a by rw [← hsub,ByteArray.size_extract];omega)
   have HQ : Hid ((¬ x < s.size)∨(∃ (hlt : x < s.size) (b : UInt8),s.data.toList.drop x = b :: s.data.toList.drop (x+1)∧(∀ W,(Instr.index 9 (.string s) (.int .i64 (x : Nat))).run Tryz.prog W = .ok (.int .u8 (b.toNat : Int)) W)∧pPart b = false)):=Lib.hid (by
    by_cases h1 : x < s.size
    ·obtain ⟨b,hb1,hb2⟩:=byte_at s h1
     exact .inr ⟨h1,b,hb1,hb2,hstop b (by rw [hb1];rfl)⟩
    ·exact .inl h1)
   clear hlt hstop k1 k2 k3 HP HT HD
   have hax' : (a : Int)≤(x : Int):=by omega
   have hxs' : (x : Int)≤(s.size : Int):=by omega
   have hxa0 : ¬ x < a:=by omega
   go_upto_region 2 with fail
   go_cut [31] from 10 to 30 (fun v wx=>v = .bool false∧∃ q,wx = wr.drewN q)
   case first =>
    rcases HQ.out with h1 | ⟨h1,b,hb1,hidx,hpb⟩
    ·go_quiet (fail)
     go_wp2_with fail
     go_meet
     exact ⟨rfl,nq,rfl⟩
    ·have HJ:=Lib.hid (fun q=>jpart_b b (wr.drewN q))
     rw [hpb] at HJ
     go_quiet ((go_at_call 244;exact quiet_left (HJ.out _)))
     go_wp2_with fail
     go_meet
     exact ⟨rfl,nq,rfl⟩
   case rest =>
    obtain ⟨rfl,q,rfl⟩:=hcut
    have hr2:=hr.drewN q
    have hg2:=only_drewN hg q
    have d0:=hr2.c0
    have d1:=hr2.c1
    have d2:=hr2.c2
    clear hr hg c0 c1 c2 f1 HQ
    generalize wr.drewN q = w3 at hr2 hg2 d0 d1 d2 ⊢
    go_wp2_with fail
    go_quiet (fail)
    have hsz32 : ¬ (32 : Int) < (sub.size : Int):=by have:=HSz.out;have:=HPn.out.1;omega
    have hr3:=hr2.drewN nq
    have hg3:=only_drewN hg2 nq
    have x0:=hr3.c0
    have x2:=hr3.c2
    clear hr2 hg2 d0 d1 d2 hsub
    generalize w3.drewN nq = w4 at hr3 hg3 x0 x2 ⊢
    have Hl:=Lib.hid hr3.len
    have hrd:=hr3.nm
    go_wp2_with fail
    go_loopw [5] (fun v wq=>∃ i : Nat,v = .int .i64 i∧i≤i0∧wq = w4) (fun v _=>nn - (intOf v).toNat)
    case atStart=>exact ⟨0,rfl,by omega,rfl⟩
    case round =>
     obtain ⟨i,rfl,hi,rfl⟩:=hrel
     have HF:=Lib.hid (List.findIdx?_eq_some_iff_getElem.1 HPn.out.2.1)
     have hi0n : i0 < nn:=by
      obtain ⟨h1,_⟩:=HF.out
      have:=Hl.out
      omega
     have hin : i < nn:=by omega
     obtain ⟨y,Hy⟩ : ∃ y,Hid (names[i]? = some y):=⟨_,Lib.hid (List.getElem?_eq_getElem (show i < names.length by have:=Hl.out;omega))⟩
     obtain ⟨b,off,rfl,hc⟩:=hrd.atS Hy.out
     by_cases hlt : i < i0
     ·have hyn : y ≠ sub.data.toList:=fun e=>by
       obtain ⟨h1,h2,h3⟩:=HF.out
       have h4:=h3 i hlt
       obtain ⟨h5,h6⟩:=List.getElem?_eq_some_iff.1 Hy.out
       rw [h6,e] at h4
       simp at h4
      have e1 : ((bytesOf y).toList == sub.toList) = false:=by rw [ByteArray.toList_eq,ByteArray.toList_eq,bytesOf_list];exact beq_eq_false_iff_ne.2 hyn
      have e3 : decide (bytesOf y = sub) = false:=decide_eq_false (fun k=>hyn (by rw [← k,bytesOf_list]))
      clear hyn
      go_wp2
      go_roundw
      case rel=>exact ⟨i+1,by go_num,by omega,by first | rfl | trivial⟩
      case measure=>simp [intOf];omega
     ·obtain rfl : i = i0:=by omega
      have hyn : bytesOf y = sub:=by
       obtain ⟨h1,h2,h3⟩:=HF.out
       obtain ⟨h5,h6⟩:=List.getElem?_eq_some_iff.1 Hy.out
       rw [h6] at h2
       have h7 : y = sub.data.toList:=by simpa using h2
       rw [h7,bytesOf_data]
      have e1 : ((bytesOf y).toList == sub.toList) = true:=by rw [hyn];simp
      have e3 : decide (bytesOf y = sub) = true:=decide_eq_true hyn
      clear hyn hlt
      go_wp2
      go_ret
      exact ⟨rfl,x,hr3,HPn.out.2.2.symm,hx,hg3⟩
end
section
open Go.RowKit
def PCell (w : World) (b : Nat) (v : Pv) : Prop:=w.cell? ⟨b,0,none⟩ = some (.int .i64 (v.1 : Int))∧w.cell? ⟨b,1,none⟩ = some (.slice v.2.1.1 v.2.1.2.1 v.2.1.2.2)∧w.cell? ⟨b,2,none⟩ = some (.slice v.2.2.1 v.2.2.2.1 v.2.2.2.2)
theorem PCell.of_blk {w : World} {b : Nat} {v : Pv} (h : Blk w b 207 #[.int .i64 (v.1 : Int),.slice v.2.1.1 v.2.1.2.1 v.2.1.2.2,.slice v.2.2.1 v.2.2.2.1 v.2.2.2.2]) : PCell w b v:=⟨h.cell 0,h.cell 1,h.cell 2⟩
theorem res_one (w : World) (b : Nat) (v : Pv) (tmps : Array Value) (ht : tmps.getD 2 undef = .pointer (some ⟨b,0,none⟩)) (hc : PCell w b v) : (results Tryz.f345 tmps).run Tryz.prog w = .ok (valPt v) w:=by
 have ht' : tmps[2]?.getD undef = .pointer (some ⟨b,0,none⟩):=by simpa [Array.getD_eq_getD_getElem?] using ht
 obtain ⟨h0,h1,h2⟩:=hc
 simp [results,Tryz.results345,go_sem,ht',h0,h1,h2,valPt]
theorem jone_any (c : Nat) (w : World) : Calls Tryz.prog 345 #[.int .i64 (c : Nat)] w fun e w'=>∃ v,e = .returned (valPt v)∧PatX w' (fun b=>w.heap.size≤b) (.node 1 [c] []) v∧Below w.heap.size w w':=by
 go_enter Tryz.func345,Tryz.ntmps345
 go_wp2
 have hbl : Blk ((w.alloc (.cells #[.int .i64 1,.slice (some ⟨w.heap.size+1,0,none⟩) 1 1,.slice none 0 0] 207)).alloc (.cells #[.int .i64 (c : Int)] 3)) w.heap.size 207 #[.int .i64 1,.slice (some ⟨w.heap.size+1,0,none⟩) 1 1,.slice none 0 0]:=(Blk.new _ _ _).alloc _
 refine bodyPost_ret (res_one _ w.heap.size (1,(some ⟨w.heap.size+1,0,none⟩,1,1),(none,0,0)) _ rfl (PCell.of_blk hbl)) rfl ?_
 refine ⟨_,rfl,?_,?_⟩
 ·simp only [PatX]
  refine ⟨trivial,⟨Rd.newAt (x:=encN c) (by simp) rfl,rfl,fun a ha=>?_,Nat.le_refl _⟩,[],SlX.nil_ _ _ _,by simp only [PatsX]⟩
  injection ha with ha
  subst ha
  simp
 ·exact ((Below.refl _ _).alloc (Nat.le_refl _) _).alloc (by simp) _
def pickB (M : List Bool) (no : Bool) (i : Nat) : List Nat:=(List.range i).filter fun j=>M.getD j false != no
theorem pickB_next (M : List Bool) (no : Bool) (i : Nat) : pickB M no (i+1) = pickB M no i++(if M.getD i false != no then [i] else []):=by
 unfold pickB
 rw [List.range_succ,List.filter_append]
 congr 1
 cases h : (M.getD i false != no) with
 | true=>rw [List.filter_cons_of_pos (p:=fun j=>M.getD j false != no) h];rfl
 | false=>rw [List.filter_cons_of_neg (p:=fun j=>M.getD j false != no) (by rw [h];decide)];rfl
def encBo (x : Bool) : List Value:=[.bool x]
theorem Rd.atBo {w : World} {A : Option Addr} {l : List Bool} {k : Nat} {x : Bool} (h : Rd w 1 A (l.map encBo)) (hk : l[k]? = some x) : ∃ b off,A = some ⟨b,off,none⟩∧w.cell? ⟨b,off+k,none⟩ = some (.bool x):=by
 obtain ⟨b,off,rfl,hc⟩:=h (by intro e;cases l with | nil=>simp at hk | cons _ _=>simp at e)
 have h0:=hc k 0 (encBo x) (.bool x) (by simp [hk]) rfl
 exact ⟨b,off,rfl,by simpa using h0⟩
theorem res_from (w : World) (b : Nat) (v : Pv) (tmps : Array Value) (ht : tmps.getD 6 undef = .pointer (some ⟨b,0,none⟩)) (hc : PCell w b v) : (results Tryz.f344 tmps).run Tryz.prog w = .ok (valPt v) w:=by
 have ht' : tmps[6]?.getD undef = .pointer (some ⟨b,0,none⟩):=by simpa [Array.getD_eq_getD_getElem?] using ht
 obtain ⟨h0,h1,h2⟩:=hc
 simp [results,Tryz.results344,go_sem,ht',h0,h1,h2,valPt]
theorem jfrom_any (n : Nat) (A : Option Addr) (m c : Nat) (M : List Bool) (no : Bool) (w : World) (hA : Rd w 1 A (M.map encBo)) (hm : M.length = n) (hmm : m = n) (hn : n≤1000000) :
  Calls Tryz.prog 344 #[.int .i64 (n : Nat),.slice A m c,.bool no] w fun e w'=>∃ v,e = .returned (valPt v)∧PatX w' (fun b=>w.heap.size≤b) (.node 1 (pickB M no n) []) v∧Below w.heap.size w w':=by
 obtain ⟨i0,hi0,hz0,hz1,hz2⟩:=info_parts infoInt
 subst hmm
 have Hm:=Lib.hid hm
 clear hm
 go_enter Tryz.func344,Tryz.ntmps344
 go_wp2
 have hS1 : Blk ((w.alloc (.cells #[.int .i64 0,.slice none 0 0,.slice none 0 0] 207)).alloc (.cells #[.int .i64 1,.slice none 0 0,.slice none 0 0] 207)) (w.heap.size+1) 207 #[.int .i64 1,.slice none 0 0,.slice none 0 0]:=by
  have h:=Blk.new (w.alloc (.cells #[.int .i64 0,.slice none 0 0,.slice none 0 0] 207)) 207 #[.int .i64 1,.slice none 0 0,.slice none 0 0]
  simpa using h
 have hS0 : Blk ((w.alloc (.cells #[.int .i64 0,.slice none 0 0,.slice none 0 0] 207)).alloc (.cells #[.int .i64 1,.slice none 0 0,.slice none 0 0] 207)) w.heap.size 207 #[.int .i64 0,.slice none 0 0,.slice none 0 0]:=(Blk.new w _ _).alloc _
 go_loopw [8] (fun v wr=>∃ (k : Nat) (A1 : Option Addr) (n1 c1 : Nat),v = .int .i64 k∧k≤m∧n1≤k∧Own wr (w.heap.size+2) 3 1 A1 n1 c1 ((pickB M no k).map encN)∧Blk wr (w.heap.size+1) 207 #[.int .i64 1,.slice A1 n1 c1,.slice none 0 0]∧Blk wr w.heap.size 207 #[.int .i64 0,.slice none 0 0,.slice none 0 0]∧Below w.heap.size w wr) (fun v _=>m - (intOf v).toNat)
 case atStart=>exact ⟨0,none,0,0,rfl,by omega,by omega,Own.nil_ _ _ _ _,hS1,hS0,((Below.refl _ _).alloc (Nat.le_refl _) _).alloc (by simp) _⟩
 case round =>
  obtain ⟨k,A1,n1,c1,rfl,hk,hnk,ho,hB1,hB0,hb⟩:=hrel
  by_cases hlt : k < m
  ·obtain ⟨x,hx⟩ : ∃ x,M[k]? = some x:=⟨_,List.getElem?_eq_getElem (by have:=Hm.out;omega)⟩
   obtain ⟨bk,off,rfl,cM⟩:=(hA.below hb).atBo hx
   have hpn:=pickB_next M no k
   have hgd : M.getD k false = x:=by rw [List.getD_eq_getElem?_getD,hx];rfl
   have hzr:=hB1.lt
   have p1:=hB1.cell 1
   simp only [zG,zI,zH] at p1
   cases hq : (x != no) with
   | true =>
    rw [hgd,hq,if_pos rfl] at hpn
    have hq2 : (x == no) = false:=by cases x <;> cases no <;> first | rfl | cases hq
    have Hpn:=Lib.hid hpn
    clear hpn hgd
    have T1:=(ho.alloc (.cells #[.int .i64 (k : Int)] 3))
    have T2 : (n1+1)*8≤140737488355328:=by omega
    have T3 : w.heap.size+2≤(wr.alloc (.cells #[.int .i64 (k : Int)] 3)).heap.size:=by simp;omega
    have T4:=encN_ok' [k]
    have T5 : Rd (wr.alloc (.cells #[.int .i64 (k : Int)] 3)) 1 (some ⟨wr.heap.size,0,none⟩) [encN k]:=Rd.newAt (by simp) rfl
    have T6 : n1+1≤maxLen:=by unfold maxLen;omega
    have hNE : some (w.heap.size+1) ≠ A1.map (·.block):=fun e=>by
     cases hA1 : A1 with
     | none=>rw [hA1] at e;cases e
     | some a=>rw [hA1] at e;injection e with e;have e2 : w.heap.size+1 = a.block:=e;have:=(ho.lt a hA1).1;omega
    go_wp2_with (at_builtin;refine wpList_app rfl (.tmp 22) (.tmp 24) _ rfl (w.heap.size+2) 3 i0 _ 1 8 Tryz.underlying52 hi0 hz0 hz1 hz2 rfl (by omega) A1 n1 c1 ((pickB M no k).map encN) rfl T1 _ 1 1 [encN k] rfl rfl T5 T4 T6 T2 T3 ?_;intro A3 c3 w5 ho5 hg5 hA5;have hB5:=(hB1.alloc (.cells #[.int .i64 (k : Int)] 3)).grown hg5 hNE;have d1:=hB5.cell 1;simp only [zG,zI,zH] at d1;have f1:=hB5.frozen 1)
    have hB50:=(hB0.alloc (.cells #[.int .i64 (k : Int)] 3)).grown hg5 (fun e=>by
     cases hA1 : A1 with
     | none=>rw [hA1] at e;cases e
     | some a=>rw [hA1] at e;injection e with e;have e2 : w.heap.size = a.block:=e;have:=(ho.lt a hA1).1;omega)
    have hb5:=below_app (hb.alloc (by omega) (.cells #[.int .i64 (k : Int)] 3)) hg5 (by simp;omega) (fun a ha=>by have:=(ho.lt a ha).1;omega)
    refine ⟨⟨k+1,A3,n1+1,c3,by go_num,by omega,by omega,by rw [Hpn.out,List.map_append];exact ho5.setCell (p:=⟨w.heap.size+1,1,none⟩) (fun a ha=>by have:=(ho5.lt a ha).1;simp;omega) _,by simpa using hB5.set_ 1 (.slice A3 (n1+1) c3),hB50.far (p:=⟨w.heap.size+1,1,none⟩) (by simp) _,hb5.setCell (p:=⟨w.heap.size+1,1,none⟩) (by simp) _⟩,?_⟩
    simp [intOf];omega
   | false =>
    rw [hgd,hq,if_neg (by decide),List.append_nil] at hpn
    have hq2 : (x == no) = true:=by cases x <;> cases no <;> first | rfl | cases hq
    have Hpn:=Lib.hid hpn
    clear hpn hgd
    go_wp2
    refine ⟨⟨k+1,A1,n1,c1,by go_num,by omega,by omega,by rw [Hpn.out];exact ho,hB1,hB0,hb⟩,?_⟩
    simp [intOf];omega
  ·have hkm : k = m:=by omega
   subst hkm
   have p0:=hB1.cell 0
   have p1:=hB1.cell 1
   have p2:=hB1.cell 2
   have z0:=hB0.cell 0
   have z1:=hB0.cell 1
   have z2:=hB0.cell 2
   simp only [zG,zI,zH] at p0 p1 p2 z0 z1 z2
   have g0:=hB0.frozen 0
   have g1:=hB0.frozen 1
   have g2:=hB0.frozen 2
   go_wp2
   have hf:=((hB0.set_ 0 (.int .i64 1)).set_ 1 (.slice A1 n1 c1)).set_ 2 (.slice none 0 0)
   refine bodyPost_ret (res_from _ w.heap.size (1,(A1,n1,c1),(none,0,0)) _ rfl (PCell.of_blk (by simpa using hf))) rfl ?_
   have hA1 : ∀ a,A1 = some a→a.block ≠ w.heap.size:=fun a ha=>by have:=(ho.lt a ha).1;omega
   refine ⟨_,rfl,?_,?_⟩
   ·simp only [PatX]
    refine ⟨trivial,⟨(((ho.setCell (p:=⟨w.heap.size,0,none⟩) hA1 _).setCell (p:=⟨w.heap.size,1,none⟩) hA1 _).setCell (p:=⟨w.heap.size,2,none⟩) hA1 _).rd (by decide),by have:=ho.len;simpa using this,fun a ha=>by have:=ho.lt a ha;exact ⟨by omega,by simp;omega⟩,ho.cap.1⟩,[],SlX.nil_ _ _ _,by simp only [PatsX]⟩
   ·exact ((hb.setCell (p:=⟨w.heap.size,0,none⟩) (Nat.le_refl _) _).setCell (p:=⟨w.heap.size,1,none⟩) (Nat.le_refl _) _).setCell (p:=⟨w.heap.size,2,none⟩) (Nat.le_refl _) _
end
section
open Go.RowKit
theorem infoBoD : (Tryz.prog.info? 4).map (fun i=>(i.zero,i.size,i.bytes)) = some (some (.bool false),1,1):=by kernel_rfl
theorem letter_part {c : UInt8} (h : pLetter c = true) : pPart c = true:=by unfold pPart;rw [h];rfl
theorem pName_some {ns : List (List UInt8)} {l r2 : List UInt8} {i : Nat} (h : pName ns l = some (i,r2)) : i < ns.length∧r2 = l.dropWhile pPart:=by
 unfold pName at h
 split at h
 ·cases h
 ·split at h
  ·cases h
  ·rename_i j hj
   injection h with h
   injection h with h1 h2
   subst h1
   exact ⟨(List.findIdx?_eq_some_iff_getElem.1 hj).1,h2.symm⟩
theorem drop_less (q : UInt8→Bool) (l : List UInt8) : (l.dropWhile q).length≤l.length:=(List.dropWhile_suffix q).length_le
theorem name_less {ns : List (List UInt8)} {c : UInt8} {r r2 : List UInt8} {i : Nat} (h : pName ns (c :: r) = some (i,r2)) (hc : pLetter c = true) : r2.length < (c :: r).length:=by
 rw [(pName_some h).2,List.dropWhile_cons,if_pos (letter_part hc),List.length_cons]
 exact Nat.lt_succ_of_le (drop_less _ _)
theorem listGo_cases {ns : List (List UInt8)} {f : Nat} {l : List UInt8} {acc : List Nat} {res : List Nat × List UInt8} (h : listGo ns f l acc = some res) :
  ∃ c r,skipB l = c :: r∧((c.toNat = 93∧res = (acc,r))∨(c.toNat ≠ 93∧pLetter c = true∧∃ i r2 f',pName ns (c :: r) = some (i,r2)∧listGo ns f' r2 (i :: acc) = some res)):=by
 cases f with
 | zero=>cases h
 | succ f =>
  rw [listGo] at h
  split at h
  ·cases h
  ·rename_i c r hs
   refine ⟨c,r,hs,?_⟩
   split at h
   ·rename_i h93
    injection h with h
    exact .inl ⟨h93,h.symm⟩
   ·rename_i h93
    split at h
    ·rename_i hl
     split at h
     ·cases h
     ·rename_i i r2 hp
      exact .inr ⟨h93,hl,i,r2,f,hp,h⟩
    ·cases h
def marksP (acc : List Nat) (n : Nat) : List Bool:=(List.range n).map fun i=>acc.contains i
theorem marks_len (acc : List Nat) (n : Nat) : (marksP acc n).length = n:=by simp [marksP]
theorem marks_nil (n : Nat) : marksP [] n = List.replicate n false:=by
 unfold marksP
 rw [List.eq_replicate_iff]
 simp
theorem marks_set {acc : List Nat} {n i : Nat} : (marksP acc n).set i true = marksP (i :: acc) n:=by
 apply List.ext_getElem (by simp [marksP])
 intro k h1 h2
 rw [List.getElem_set]
 simp only [marksP,List.getElem_map,List.getElem_range,List.contains_cons]
 by_cases e : i = k
 ·subst e
  rw [if_pos rfl];simp
 ·rw [if_neg e,show (k == i) = false from beq_eq_false_iff_ne.2 (Ne.symm e),Bool.false_or]
theorem marks_at {acc : List Nat} {n i : Nat} (h : i < n) : (marksP acc n)[i]? = some (acc.contains i):=by
 unfold marksP
 rw [List.getElem?_map,List.getElem?_range h];rfl
theorem pick_marks (acc : List Nat) (n : Nat) (no : Bool) : pickB (marksP acc n) no n = (List.range n).filter fun i=>acc.contains i != no:=by
 unfold pickB
 apply List.filter_congr
 intro j hj
 rw [List.getD_eq_getElem?_getD,marks_at (List.mem_range.1 hj)];rfl
theorem made_noB (n : Nat) : (madeCells (Value.bool false).cells (n*1)).toList = ((List.replicate n false).map encBo).flatten:=by
 rw [Nat.mul_one]
 unfold madeCells
 rw [Array.toList_map,Array.toList_range]
 induction n with
 | zero=>rfl
 | succ n ih =>
  rw [List.range_succ,List.map_append,ih,List.replicate_succ',List.map_append,List.flatten_append]
  congr 1
  simp [Value.cells,encBo,Nat.mod_one]
theorem encBo_ok (l : List Bool) : ∀ y ∈ l.map encBo,y.length = 1∧∀ u ∈ y,u.oneCell' = true:=by
 intro y hy
 obtain ⟨x,_,rfl⟩:=List.mem_map.1 hy
 exact ⟨rfl,fun u hu=>by simp [encBo] at hu;subst hu;rfl⟩
theorem res_list (w : World) (b : Nat) (v : Pv) (tmps : Array Value) (ht : tmps.getD 2 undef = .pointer (some ⟨b,0,none⟩)) (hc : PCell w b v) : (results Tryz.f343 tmps).run Tryz.prog w = .ok (valPt v) w:=by
 have ht' : tmps[2]?.getD undef = .pointer (some ⟨b,0,none⟩):=by simpa [Array.getD_eq_getD_getElem?] using ht
 obtain ⟨h0,h1,h2⟩:=hc
 simp [results,Tryz.results343,go_sem,ht',h0,h1,h2,valPt]
theorem RS.belowB {w w' : World} {p B : Nat} {s : ByteArray} {A : Option Addr} {nn cn : Nat} {names : List (List UInt8)} {a d k : Nat} (h : RS w p s A nn cn names a d k) (hb : Below B w w') (hp : p < B) (hA : ∀ x,A = some x→x.block < B) : RS w' p s A nn cn names a d k :=
 ⟨(hb.block p hp).trans h.blk,h.nm.belowB hb hA,h.len,fun x hx=>⟨(h.off x hx).1,Nat.lt_of_lt_of_le (h.off x hx).2 hb.size⟩⟩
theorem jlist_any (p : Nat) (s : ByteArray) (A : Option Addr) (nn cn : Nat) (names : List (List UInt8)) (a d k f : Nat) (b : UInt8) (r1 rest : List UInt8) (acc : List Nat) (w : World)
  (h : RS w p s A nn cn names a d k) (hk : k < 512) (ha : a < s.size) (hs : s.size≤1000000) (hnz : nn≤1000000) (hsk : skipB (s.data.toList.drop (a+1)) = b :: r1)
  (hL : listGo names f (if b.toNat = 94 then r1 else b :: r1) [] = some (acc,rest)) :
  Calls Tryz.prog 343 #[.pointer (some ⟨p,0,none⟩)] w fun e w'=>∃ v x,e = .returned (valPt v)∧RS w' p s A nn cn names x d (k+1)∧s.data.toList.drop x = rest∧x≤s.size∧w.grownBy w' (some p)∧PatX w' (fun b=>w.heap.size≤b) (fromP nn acc (decide (b.toNat = 94))) v:=by
 obtain ⟨j0,hj0,hy0,hy1,hy2⟩:=info_parts infoBoD
 have hpw:=h.lt
 have hln:=h.len
 have HAw:=Lib.hid (fun x (hx : A = some x)=>(h.off x hx).2)
 have HC:=Lib.hid (fun W (h : RS W p s A nn cn names a d k)=>jcounts_any p s A nn cn names a d k a W h hk)
 have HS:=Lib.hid (fun x W (h : RS W p s A nn cn names x d (k+1)) (hx : x≤s.size)=>jsees_any p s A nn cn names x d (k+1) W h hx hs)
 have HN:=Lib.hid (fun x i0 rest W (h : RS W p s A nn cn names x d (k+1)) (hx : x≤s.size) (hP : pName names (s.data.toList.drop x) = some (i0,rest))=>jname_any p s A nn cn names x d (k+1) i0 rest W h hx hs hnz hP)
 have HF:=Lib.hid (fun A' c' M no W (hA : Rd W 1 A' (M.map encBo)) (hm : M.length = nn)=>jfrom_any nn A' nn c' M no W hA hm rfl hnz)
 have hw0:=h.below ((Below.refl w.heap.size w).alloc (Nat.le_refl _) (.cells #[.int .i64 0,.slice none 0 0,.slice none 0 0] 207))
 have cz:=hw0.c1
 obtain ⟨L0,HL0⟩ : ∃ L,Hid ((if b.toNat = 94 then r1 else b :: r1) = L):=⟨_,Lib.hid rfl⟩
 rw [HL0.out] at hL
 have HL:=Lib.hid hL
 obtain ⟨q,Hq⟩ : ∃ q,Hid (decide (b.toNat = 94) = q):=⟨_,Lib.hid rfl⟩
 have e94 : ((b.toNat : Int) == 94) = q:=by rw [← Hq.out,Bool.eq_iff_iff,beq_iff_eq,decide_eq_true_iff];omega
 have Hsk:=Lib.hid hsk
 rw [Hq.out]
 clear hL hsk h
 go_enter Tryz.func343,Tryz.ntmps343
 go_wp2_with fail
 refine (HC.out _ hw0).mono ?_
 rintro e w1 ⟨rfl,hr,hg⟩
 clear cz
 have hB0 : Blk w1 w.heap.size 207 #[.int .i64 0,.slice none 0 0,.slice none 0 0]:=(Blk.new w _ _).grown hg (fun e=>by injection e with e;omega)
 have hg0 : w.grownBy w1 (some p):=only_trans (only_alloc (only_refl w _) _) hg
 have c1:=hr.c1
 have f1:=hr.f 1
 have hr2:=hr.setAt (a+1)
 have ez : ((a+1 : Nat) : Int) = (a : Int)+1:=by omega
 rw [ez] at hr2
 have hB1:=hB0.far (p:=⟨p,1,none⟩) (by simp;omega) (.int .i64 ((a : Int)+1))
 have hg1:=only_setCell hg0 (p:=⟨p,1,none⟩) (.inl rfl) (.int .i64 ((a : Int)+1))
 have c5:=hr2.c5
 have h0:=HS.out (a+1) _ hr2 (by omega)
 rw [Hsk.out,show headN (b :: r1) = b.toNat from rfl] at h0
 have HS1:=Lib.hid h0
 clear h0 hB0 hg0 hg hr hw0 HC ez
 go_wp2_with fail
 refine HS1.out.mono ?_
 rintro e w2 ⟨rfl,x,hr3,hd,hx,hg3⟩
 have hB2:=hB1.grown hg3 (fun e=>by injection e with e;omega)
 have hg2:=only_trans hg1 hg3
 have Hd:=Lib.hid hd
 clear hd c1 f1 c5 hr2 hB1 hg1 hg3 HS1
 go_upto_if 29 with fail
 go_cut [3] from 7 to 37 (fun v wx=>v = .bool q∧∃ x,RS wx p s A nn cn names x d (k+1)∧Hid (s.data.toList.drop x = L0)∧x≤s.size∧w.grownBy wx (some p)∧Blk wx w.heap.size 207 #[.int .i64 0,.slice none 0 0,.slice none 0 0])
 case first =>
  cases q with
  | true =>
   have hb94:=of_decide_eq_true Hq.out
   have hxs : x < s.size:=Nat.lt_of_not_le fun hle=>by
    have h1:=Hd.out
    rw [drop_end s (by omega)] at h1
    cases h1
   have HD2:=Lib.hid (show s.data.toList.drop (x+1) = L0 by
    obtain ⟨b',h1,_⟩:=byte_at s hxs
    have h2:=Hd.out
    rw [h1] at h2
    injection h2 with _ h2
    rw [h2,← HL0.out,if_pos hb94])
   have c1:=hr3.c1
   have f1:=hr3.f 1
   have hr4:=hr3.setAt (x+1)
   have ez : ((x+1 : Nat) : Int) = (x : Int)+1:=by omega
   rw [ez] at hr4
   clear ez hb94
   go_wp2_with fail
   go_meet
   exact ⟨rfl,x+1,hr4,HD2,by omega,only_setCell hg2 (.inl rfl) _,hB2.far (p:=⟨p,1,none⟩) (by simp;omega) _⟩
  | false =>
   have hb94:=of_decide_eq_false Hq.out
   have HD2:=Lib.hid (show s.data.toList.drop x = L0 by rw [Hd.out,← HL0.out,if_neg hb94])
   clear hb94
   go_wp2_with fail
   go_meet
   exact ⟨rfl,x,hr3,HD2,hx,hg2,hB2⟩
 case rest =>
  clear hr3 Hd hx hg2 hB2 e94 Hsk
  obtain ⟨rfl,x,hr3,HD0,hx,hg2,hB2⟩:=hcut
  have c2:=hr3.c2
  have hbz:=hB2.lt
  go_wp2_with (at_make;go_must (refine wpList_make_full _ rfl (.tmp 41) (.tmp 41) 225 rfl (w.heap.size+1) 4 j0 (.bool false) 1 Tryz.underlying225 hj0 hy0 hy1 .i64 .i64 _ _ nn rfl rfl (by omega) (by omega) (by rw [hy2];omega) (by unfold maxLen;omega) (by omega) ?_);intro w4 ho4 hg4)
  have HO : Own w4 (w.heap.size+1) 4 1 (some ⟨wc.heap.size,0,none⟩) nn nn ((marksP [] nn).map encBo):=⟨by simp [marks_len],fun y hy=>(encBo_ok _ y hy).1,by rw [marks_nil,← made_noB];exact ho4⟩
  have hg40 : w.grownBy w4 (some p):=only_below hg2 (below_new hg4)
  have hr4:=hr3.below (below_new hg4)
  have hB4:=hB2.below (below_new hg4)
  have HL2 : Hid (listGo names f (s.data.toList.drop x) [] = some (acc,rest)):=Lib.hid (by rw [HD0.out];exact HL.out)
  clear ho4 hg4 hr3 hB2 hg2 c2 HL HD0 HL0 Hq
  generalize wc.heap.size = mb at HO hbz
  go_loopw [5,6] (fun _ _ wr=>∃ (x : Nat) (acc0 : List Nat) (f0 : Nat),RS wr p s A nn cn names x d (k+1)∧Hid (listGo names f0 (s.data.toList.drop x) acc0 = some (acc,rest))∧x≤s.size∧w.grownBy wr (some p)∧Blk wr w.heap.size 207 #[.int .i64 0,.slice none 0 0,.slice none 0 0]∧Own wr (w.heap.size+1) 4 1 (some ⟨mb,0,none⟩) nn nn ((marksP acc0 nn).map encBo)) (fun _ _ wr=>s.size - atOf wr p)
  case atStart=>exact ⟨x,[],f,hr4,HL2,hx,hg40,hB4,HO⟩
  case round =>
   clear hr4 HL2 hx hg40 hB4 HO
   obtain ⟨y,acc0,f0,hr,HG,hy,hg,hB,ho⟩:=hrel
   have Hat:=Lib.hid hr.atOf
   obtain ⟨c,r,hsk2,hcs⟩:=listGo_cases HG.out
   have Hcs:=Lib.hid hcs
   have hly : (c :: r).length≤s.size - y:=by
    rw [← hsk2]
    refine Nat.le_trans (drop_less _ _) ?_
    rw [List.length_drop,size_data];exact Nat.le_refl _
   have c5:=hr.c5
   have h0:=HS.out y _ hr hy
   rw [hsk2,show headN (c :: r) = c.toNat from rfl] at h0
   have HS2:=Lib.hid h0
   clear h0 hsk2 hcs HG
   go_wp2_with fail
   refine HS2.out.mono ?_
   rintro e w5 ⟨rfl,x1,hr5,hd5,hx1,hg5⟩
   have hxs : x1 < s.size:=Nat.lt_of_not_le fun hle=>by
    rw [drop_end s (by omega)] at hd5
    cases hd5
   have hl1 : (c :: r).length = s.size - x1:=by rw [← hd5,List.length_drop,size_data]
   have t1 : decide (s.size≤x1) = false:=decide_eq_false (by omega)
   have Hd5:=Lib.hid hd5
   have c0:=hr5.c0
   have c1:=hr5.c1
   have hB5:=hB.grown hg5 (fun e=>by injection e with e;omega)
   have ho5:=ho.grown hg5 (fun a ha e=>by injection ha with ha;subst ha;injection e with e;simp only at e;omega)
   have hgg:=only_trans hg hg5
   clear hr c5 hg hB ho HS2 hd5 hg5
   go_wp2_with fail
   go_quiet (fail)
   rcases Hcs.out with ⟨h93,hres⟩ | ⟨h93,hlet,i0,r2,f',hp,hL2⟩
   ·have t2 : ((c.toNat : Int) == 93) = true:=by rw [beq_iff_eq];omega
    have hxy : acc = acc0∧rest = r:=by injection hres with h1 h2;exact ⟨h1,h2⟩
    obtain ⟨rfl,rfl⟩:=hxy
    have HD2:=Lib.hid (show s.data.toList.drop (x1+1) = rest by
     obtain ⟨b',h1,_⟩:=byte_at s hxs
     have h2:=Hd5.out
     rw [h1] at h2
     injection h2)
    have f1:=hr5.f 1
    have hr6:=(hr5.drewN nq).setAt (x1+1)
    have ez : ((x1+1 : Nat) : Int) = (x1 : Int)+1:=by omega
    rw [ez] at hr6
    have c2:=hr6.c2
    have ho6 : Own ((w5.drewN nq).setCell ⟨p,1,none⟩ (.int .i64 ((x1 : Int)+1))) (w.heap.size+1) 4 1 (some ⟨mb,0,none⟩) nn nn ((marksP acc nn).map encBo):=(ho5.drewN nq).setCell (p:=⟨p,1,none⟩) (fun a ha e=>by injection ha with ha;subst ha;simp only at e;omega) _
    have hB6 : Blk ((w5.drewN nq).setCell ⟨p,1,none⟩ (.int .i64 ((x1 : Int)+1))) w.heap.size 207 #[.int .i64 0,.slice none 0 0,.slice none 0 0]:=(hB5.drewN nq).far (p:=⟨p,1,none⟩) (by simp;omega) _
    have hg6 : w.grownBy ((w5.drewN nq).setCell ⟨p,1,none⟩ (.int .i64 ((x1 : Int)+1))) (some p):=only_setCell (only_drewN hgg nq) (p:=⟨p,1,none⟩) (.inl rfl) _
    have HC2:=Lib.hid (HF.out _ nn (marksP acc nn) q _ (ho6.rd (by decide)) (marks_len _ _))
    clear ez Hcs hres hly hl1 Hat ho5 hB5 hgg hr5
    go_wp2_with fail
    refine HC2.out.mono ?_
    rintro e w7 ⟨v,rfl,hpat,hb7⟩
    have hB7:=hB6.below hb7
    have hr7:=hr6.below hb7
    have hg7:=only_below hg6 hb7
    have hz7:=hB6.lt
    rw [pick_marks] at hpat
    have Hpat:=Lib.hid hpat
    have z0:=hB7.cell 0
    have z1:=hB7.cell 1
    have z2:=hB7.cell 2
    simp only [zG,zI,zH] at z0 z1 z2
    have g0:=hB7.frozen 0
    have g1:=hB7.frozen 1
    have g2:=hB7.frozen 2
    clear HC2 hpat c2 hr6 ho6 hB6 hg6
    obtain ⟨v0,⟨A1,n1,c1'⟩,⟨A2,n2,c2'⟩⟩:=v
    simp only [valPt]
    go_wp2
    have hf:=((hB7.set_ 0 (.int .i64 (v0 : Int))).set_ 1 (.slice A1 n1 c1')).set_ 2 (.slice A2 n2 c2')
    have hg8 : w7.grownBy (((w7.setCell ⟨w.heap.size,0,none⟩ (.int .i64 (v0 : Int))).setCell ⟨w.heap.size,1,none⟩ (.slice A1 n1 c1')).setCell ⟨w.heap.size,2,none⟩ (.slice A2 n2 c2')) (some w.heap.size):=only_setCell (only_setCell (only_setCell (only_refl _ _) (p:=⟨w.heap.size,0,none⟩) (.inl rfl) _) (p:=⟨w.heap.size,1,none⟩) (.inl rfl) _) (p:=⟨w.heap.size,2,none⟩) (.inl rfl) _
    have hb8 : Below w.heap.size w7 (((w7.setCell ⟨w.heap.size,0,none⟩ (.int .i64 (v0 : Int))).setCell ⟨w.heap.size,1,none⟩ (.slice A1 n1 c1')).setCell ⟨w.heap.size,2,none⟩ (.slice A2 n2 c2')):=(((Below.refl _ _).setCell (p:=⟨w.heap.size,0,none⟩) (Nat.le_refl _) _).setCell (p:=⟨w.heap.size,1,none⟩) (Nat.le_refl _) _).setCell (p:=⟨w.heap.size,2,none⟩) (Nat.le_refl _) _
    refine bodyPost_ret (res_list _ w.heap.size (v0,(A1,n1,c1'),(A2,n2,c2')) _ rfl (PCell.of_blk (by simpa using hf))) rfl ?_
    refine ⟨_,x1+1,rfl,hr7.belowB hb8 hpw HAw.out,HD2.out,by omega,only_setCell (only_setCell (only_setCell hg7 (p:=⟨w.heap.size,0,none⟩) (.inr (Nat.le_refl _)) _) (p:=⟨w.heap.size,1,none⟩) (.inr (Nat.le_refl _)) _) (p:=⟨w.heap.size,2,none⟩) (.inr (Nat.le_refl _)) _,?_⟩
    exact PatX.keep ((KeepX.grown hg8 (fun r hr h=>by injection hr with hr;subst hr;omega)).trans (KeepX.same (fun b h _=>by show w.heap.size≤b;omega))) Hpat.out
   ·have t2 : ((c.toNat : Int) == 93) = false:=by rw [beq_eq_false_iff_ne];omega
    have hi0:=(pName_some hp).1
    rw [hln] at hi0
    have hlr:=name_less hp hlet
    have h1:=jletter_b c (w5.drewN nq)
    rw [hlet] at h1
    have HLt:=Lib.hid h1
    have HN2:=Lib.hid (HN.out x1 i0 r2 _ (hr5.drewN nq) hx1 (by rw [Hd5.out];exact hp))
    clear h1 hp Hcs
    have HLr:=Lib.hid hL2
    clear hL2
    go_wp2_with fail
    refine HLt.out.mono ?_
    rintro e w6 ⟨rfl,rfl⟩
    go_wp2_with fail
    refine HN2.out.mono ?_
    rintro e w6 ⟨rfl,x2,hr6,hd6,hx2,hg6⟩
    have c5:=hr6.c5
    have ho6:=(ho5.drewN nq).grown hg6 (fun a ha e=>by injection ha with ha;subst ha;injection e with e;simp only at e;omega)
    have hB6:=(hB5.drewN nq).grown hg6 (fun e=>by injection e with e;omega)
    have hst:=fun v=>ho6.stored (k:=i0) (j:=0) (x:=encBo (acc0.contains i0)) (by rw [List.getElem?_map,marks_at hi0];rfl) (by omega) v
    have hca:=ho6.cell (k:=i0) (j:=0) (x:=encBo (acc0.contains i0)) (u:=.bool (acc0.contains i0)) (by rw [List.getElem?_map,marks_at hi0];rfl) rfl
    have hfz:=ho6.frozen i0
    simp only [Nat.mul_one,Nat.add_zero] at hst hca
    have HS6 : Hid (Own (w6.setCell ⟨mb,i0,none⟩ (.bool true)) (w.heap.size+1) 4 1 (some ⟨mb,0,none⟩) nn nn ((marksP (i0 :: acc0) nn).map encBo)):=Lib.hid (by
     rw [← marks_set,List.map_set]
     exact hst _)
    have hb7 : Below w.heap.size w6 (w6.setCell ⟨mb,i0,none⟩ (.bool true)):=(Below.refl _ _).setCell (p:=⟨mb,i0,none⟩) (by simp;omega) _
    have hr7:=hr6.belowB hb7 hpw HAw.out
    have hB7:=hB6.far (p:=⟨mb,i0,none⟩) (by simp;omega) (.bool true)
    have hg7:=only_setCell (only_trans (only_drewN hgg nq) hg6) (p:=⟨mb,i0,none⟩) (.inr (by simp;omega)) (.bool true)
    have hl2 : r2.length = s.size - x2:=by rw [← hd6,List.length_drop,size_data]
    have Hm2:=Lib.hid (show s.size - x2 < s.size - y by omega)
    have HG2 : Hid (listGo names f' (s.data.toList.drop x2) (i0 :: acc0) = some (acc,rest)):=Lib.hid (by rw [hd6];exact HLr.out)
    have hi1 : (i0 : Int) < (nn : Int):=by omega
    have hi2 : (0 : Int)≤(i0 : Int):=by omega
    clear hst HLr hd6 hl2 hly hl1 hlr hi0 HLt HN2 hg6 hB6
    go_wp2
    refine ⟨⟨x2,i0 :: acc0,f',hr7,HG2,hx2,hg7,hB7,HS6.out⟩,?_⟩
    rw [hr7.atOf,Hat.out];exact Hm2.out
end
section
open Go.RowKit
theorem atomP_cases {ns : List (List UInt8)} {f d k k' : Nat} {c : UInt8} {r rest : List UInt8} {pat : Pat} (h : atomP ns (f+1) d c r k = some (pat,rest,k')) :
  k < 512∧((c.toNat = 40∧d < 32∧∃ c2,patP ns f (d+1) r (k+1) = some (pat,c2 :: rest,k')) ∨
   (c.toNat = 91∧k' = k+1∧∃ b r1 acc,skipB r = b :: r1∧listGo ns f (if b.toNat = 94 then r1 else b :: r1) [] = some (acc,rest)∧pat = fromP ns.length acc (decide (b.toNat = 94))) ∨
   (c.toNat = 46∧pat = fromP ns.length [] true∧rest = r∧k' = k+1) ∨
   (c.toNat ≠ 40∧c.toNat ≠ 91∧c.toNat ≠ 46∧k' = k+1∧∃ i,pName ns (c :: r) = some (i,rest)∧pat = .node 1 [i] [])):=by
 rw [atomP] at h
 split at h
 ·cases h
 ·rename_i hk
  refine ⟨by omega,?_⟩
  split at h
  ·rename_i h40
   split at h
   ·cases h
   ·rename_i hd
    split at h
    ·cases h
    ·cases h
    ·rename_i p c2 l1 k1 hp
     injection h with h
     injection h with e1 e2
     injection e2 with e2 e3
     subst e1 e2 e3
     exact .inl ⟨h40,by omega,c2,hp⟩
  ·rename_i h40
   split at h
   ·rename_i h91
    split at h
    ·cases h
    ·rename_i b r1 hs
     split at h
     ·cases h
     ·rename_i acc l1 hl
      injection h with h
      injection h with e1 e2
      injection e2 with e2 e3
      subst e1 e2 e3
      exact .inr (.inl ⟨h91,rfl,b,r1,acc,hs,hl,rfl⟩)
   ·rename_i h91
    split at h
    ·rename_i h46
     injection h with h
     injection h with e1 e2
     injection e2 with e2 e3
     subst e1 e2 e3
     exact .inr (.inr (.inl ⟨h46,rfl,rfl,rfl⟩))
    ·rename_i h46
     split at h
     ·cases h
     ·rename_i i l1 hp
      injection h with h
      injection h with e1 e2
      injection e2 with e2 e3
      subst e1 e2 e3
      exact .inr (.inr (.inr ⟨h40,h91,h46,rfl,i,hp,rfl⟩))
def RdPost (w : World) (p : Nat) (s : ByteArray) (A : Option Addr) (nn cn : Nat) (names : List (List UInt8)) (d : Nat) (pat : Pat) (rest : List UInt8) (k' : Nat) (e : Ending) (w' : World) : Prop :=
 ∃ v x,e = .returned (valPt v)∧RS w' p s A nn cn names x d k'∧s.data.toList.drop x = rest∧x≤s.size∧w.grownBy w' (some p)∧PatX w' (fun b=>w.heap.size≤b) pat v
theorem pt_end {w w7 : World} {p B : Nat} {s : ByteArray} {A : Option Addr} {nn cn : Nat} {names : List (List UInt8)} {x d k : Nat} {a0 a1 a2 : Value} {pat : Pat} (v : Pv) (hB7 : Blk w7 w.heap.size 207 #[a0,a1,a2])
  (hr7 : RS w7 p s A nn cn names x d k) (hpw : p < w.heap.size) (hA : ∀ x,A = some x→x.block < w.heap.size) (hg7 : w.grownBy w7 (some p)) (hz : w.heap.size < B) (hpat : PatX w7 (fun b=>B≤b) pat v) :
  Blk (((w7.setCell ⟨w.heap.size,0,none⟩ (.int .i64 (v.1 : Int))).setCell ⟨w.heap.size,1,none⟩ (.slice v.2.1.1 v.2.1.2.1 v.2.1.2.2)).setCell ⟨w.heap.size,2,none⟩ (.slice v.2.2.1 v.2.2.2.1 v.2.2.2.2)) w.heap.size 207 #[.int .i64 (v.1 : Int),.slice v.2.1.1 v.2.1.2.1 v.2.1.2.2,.slice v.2.2.1 v.2.2.2.1 v.2.2.2.2] ∧
  RS (((w7.setCell ⟨w.heap.size,0,none⟩ (.int .i64 (v.1 : Int))).setCell ⟨w.heap.size,1,none⟩ (.slice v.2.1.1 v.2.1.2.1 v.2.1.2.2)).setCell ⟨w.heap.size,2,none⟩ (.slice v.2.2.1 v.2.2.2.1 v.2.2.2.2)) p s A nn cn names x d k ∧
  w.grownBy (((w7.setCell ⟨w.heap.size,0,none⟩ (.int .i64 (v.1 : Int))).setCell ⟨w.heap.size,1,none⟩ (.slice v.2.1.1 v.2.1.2.1 v.2.1.2.2)).setCell ⟨w.heap.size,2,none⟩ (.slice v.2.2.1 v.2.2.2.1 v.2.2.2.2)) (some p) ∧
  PatX (((w7.setCell ⟨w.heap.size,0,none⟩ (.int .i64 (v.1 : Int))).setCell ⟨w.heap.size,1,none⟩ (.slice v.2.1.1 v.2.1.2.1 v.2.1.2.2)).setCell ⟨w.heap.size,2,none⟩ (.slice v.2.2.1 v.2.2.2.1 v.2.2.2.2)) (fun b=>w.heap.size≤b) pat v:=by
 obtain ⟨v0,⟨A1,n1,c1'⟩,⟨A2,n2,c2'⟩⟩:=v
 have hf:=((hB7.set_ 0 (.int .i64 (v0 : Int))).set_ 1 (.slice A1 n1 c1')).set_ 2 (.slice A2 n2 c2')
 have hg8 : w7.grownBy (((w7.setCell ⟨w.heap.size,0,none⟩ (.int .i64 (v0 : Int))).setCell ⟨w.heap.size,1,none⟩ (.slice A1 n1 c1')).setCell ⟨w.heap.size,2,none⟩ (.slice A2 n2 c2')) (some w.heap.size):=only_setCell (only_setCell (only_setCell (only_refl _ _) (p:=⟨w.heap.size,0,none⟩) (.inl rfl) _) (p:=⟨w.heap.size,1,none⟩) (.inl rfl) _) (p:=⟨w.heap.size,2,none⟩) (.inl rfl) _
 have hb8 : Below w.heap.size w7 (((w7.setCell ⟨w.heap.size,0,none⟩ (.int .i64 (v0 : Int))).setCell ⟨w.heap.size,1,none⟩ (.slice A1 n1 c1')).setCell ⟨w.heap.size,2,none⟩ (.slice A2 n2 c2')):=(((Below.refl _ _).setCell (p:=⟨w.heap.size,0,none⟩) (Nat.le_refl _) _).setCell (p:=⟨w.heap.size,1,none⟩) (Nat.le_refl _) _).setCell (p:=⟨w.heap.size,2,none⟩) (Nat.le_refl _) _
 refine ⟨by simpa using hf,hr7.belowB hb8 hpw hA,only_setCell (only_setCell (only_setCell hg7 (p:=⟨w.heap.size,0,none⟩) (.inr (Nat.le_refl _)) _) (p:=⟨w.heap.size,1,none⟩) (.inr (Nat.le_refl _)) _) (p:=⟨w.heap.size,2,none⟩) (.inr (Nat.le_refl _)) _,?_⟩
 exact PatX.keep ((KeepX.grown hg8 (fun r hr h=>by injection hr with hr;subst hr;omega)).trans (KeepX.same (fun b h _=>by show w.heap.size≤b;omega))) hpat
theorem res_atom (w : World) (b : Nat) (v : Pv) (tmps : Array Value) (ht : tmps.getD 2 undef = .pointer (some ⟨b,0,none⟩)) (hc : PCell w b v) : (results Tryz.f322 tmps).run Tryz.prog w = .ok (valPt v) w:=by
 have ht' : tmps[2]?.getD undef = .pointer (some ⟨b,0,none⟩):=by simpa [Array.getD_eq_getD_getElem?] using ht
 obtain ⟨h0,h1,h2⟩:=hc
 simp [results,Tryz.results322,go_sem,ht',h0,h1,h2,valPt]
end
section
open Go.RowKit
theorem opsGo_cases {f k k2 : Nat} {p q : Pat} {l l2 : List UInt8} (h : opsGo f p l k = some (q,l2,k2)) :
  (skipB l = []∧q = p∧l2 = []∧k2 = k)∨∃ c r,skipB l = c :: r∧((pOper c = 0∧q = p∧l2 = c :: r∧k2 = k)∨(pOper c ≠ 0∧k < 512∧∃ f',opsGo f' (.node (pOper c) [] [p]) r (k+1) = some (q,l2,k2))):=by
 cases f with
 | zero=>cases h
 | succ f =>
  rw [opsGo] at h
  split at h
  ·rename_i hs
   injection h with h
   injection h with e1 e2
   injection e2 with e2 e3
   exact .inl ⟨hs,e1.symm,e2.symm,e3.symm⟩
  ·rename_i c r hs
   refine .inr ⟨c,r,hs,?_⟩
   split at h
   ·rename_i h0
    injection h with h
    injection h with e1 e2
    injection e2 with e2 e3
    exact .inl ⟨h0,e1.symm,e2.symm,e3.symm⟩
   ·rename_i h0
    split at h
    ·cases h
    ·rename_i hk
     exact .inr ⟨h0,by omega,f,h⟩
theorem branchP_cases {ns : List (List UInt8)} {f d k k' : Nat} {acc : List Pat} {pat : Pat} {l rest : List UInt8} (h : branchP ns f d l k acc = some (pat,rest,k')) :
  (skipB l = []∧pat = seqOf acc∧rest = []∧k' = k)∨∃ c r,skipB l = c :: r∧((pBegins c = false∧pat = seqOf acc∧rest = c :: r∧k' = k) ∨
   (pBegins c = true∧∃ f' p l1 k1 q l2 k2,f = f'+1∧atomP ns f' d c r k = some (p,l1,k1)∧opsGo f' p l1 k1 = some (q,l2,k2)∧branchP ns f' d l2 k2 (acc++[q]) = some (pat,rest,k'))):=by
 cases f with
 | zero=>rw [branchP] at h;cases h
 | succ f =>
  rw [branchP] at h
  split at h
  ·rename_i hs
   injection h with h
   injection h with e1 e2
   injection e2 with e2 e3
   exact .inl ⟨hs,e1.symm,e2.symm,e3.symm⟩
  ·rename_i c r hs
   refine .inr ⟨c,r,hs,?_⟩
   split at h
   ·rename_i hb
    refine .inr ⟨hb,f,?_⟩
    split at h
    ·cases h
    ·rename_i p l1 k1 ha
     split at h
     ·cases h
     ·rename_i q l2 k2 ho
      exact ⟨p,l1,k1,q,l2,k2,rfl,ha,ho,h⟩
   ·rename_i hb
    injection h with h
    injection h with e1 e2
    injection e2 with e2 e3
    exact .inl ⟨by simpa using hb,e1.symm,e2.symm,e3.symm⟩
theorem altsP_cases {ns : List (List UInt8)} {f d k k' : Nat} {acc : List Pat} {pat : Pat} {l rest : List UInt8} (h : altsP ns f d l k acc = some (pat,rest,k')) :
  (skipB l = []∧pat = altOf acc∧rest = []∧k' = k)∨∃ c r,skipB l = c :: r∧((c.toNat = 124∧k < 512∧∃ f' p l1 k1,f = f'+1∧branchP ns f' d r (k+1) [] = some (p,l1,k1)∧altsP ns f' d l1 k1 (acc++[p]) = some (pat,rest,k')) ∨
   (c.toNat = 41∧0 < d∧pat = altOf acc∧rest = c :: r∧k' = k)):=by
 cases f with
 | zero=>rw [altsP] at h;cases h
 | succ f =>
  rw [altsP] at h
  split at h
  ·rename_i hs
   injection h with h
   injection h with e1 e2
   injection e2 with e2 e3
   exact .inl ⟨hs,e1.symm,e2.symm,e3.symm⟩
  ·rename_i c r hs
   refine .inr ⟨c,r,hs,?_⟩
   split at h
   ·rename_i hc
    split at h
    ·cases h
    ·rename_i hk
     split at h
     ·cases h
     ·rename_i p l1 k1 hb
      exact .inl ⟨hc,by omega,f,p,l1,k1,rfl,hb,h⟩
   ·split at h
    ·rename_i hc
     injection h with h
     injection h with e1 e2
     injection e2 with e2 e3
     exact .inr ⟨hc.1,hc.2,e1.symm,e2.symm,e3.symm⟩
    ·cases h
theorem patP_cases {ns : List (List UInt8)} {f d k k' : Nat} {pat : Pat} {l rest : List UInt8} (h : patP ns f d l k = some (pat,rest,k')) :
  ∃ f' p l1 k1,f = f'+1∧branchP ns f' d l k [] = some (p,l1,k1)∧altsP ns f' d l1 k1 [p] = some (pat,rest,k'):=by
 cases f with
 | zero=>rw [patP] at h;cases h
 | succ f =>
  rw [patP] at h
  split at h
  ·cases h
  ·rename_i p l1 k1 hb
   exact ⟨f,p,l1,k1,rfl,hb,h⟩
def UpTo (k k' : Nat) : Prop:=k≤k'∧(k≤512→k'≤512)
theorem UpTo.refl (k : Nat) : UpTo k k:=⟨Nat.le_refl _,id⟩
theorem UpTo.trans {a b c : Nat} (h : UpTo a b) (k : UpTo b c) : UpTo a c:=⟨Nat.le_trans h.1 k.1,fun q=>k.2 (h.2 q)⟩
theorem UpTo.one {k : Nat} (h : k < 512) : UpTo k (k+1):=⟨Nat.le_succ _,fun _=>h⟩
theorem ops_up : ∀ (f : Nat) {k k2 : Nat} {p q : Pat} {l l2 : List UInt8},opsGo f p l k = some (q,l2,k2)→UpTo k k2
 | 0,_,_,_,_,_,_,h=>by rw [opsGo] at h;cases h
 | f+1,k,k2,p,q,l,l2,h=>by
  rw [opsGo] at h
  split at h
  ·injection h with h;injection h with _ h;injection h with _ h;subst h;exact UpTo.refl _
  ·split at h
   ·injection h with h;injection h with _ h;injection h with _ h;subst h;exact UpTo.refl _
   ·split at h
    ·cases h
    ·rename_i hk
     exact (UpTo.one (by omega)).trans (ops_up f h)
theorem parts_up (ns : List (List UInt8)) : ∀ f : Nat,
  (∀ {d k k' : Nat} {pat : Pat} {l rest : List UInt8},patP ns f d l k = some (pat,rest,k')→UpTo k k') ∧
  (∀ {d k k' : Nat} {acc : List Pat} {pat : Pat} {l rest : List UInt8},altsP ns f d l k acc = some (pat,rest,k')→UpTo k k') ∧
  (∀ {d k k' : Nat} {acc : List Pat} {pat : Pat} {l rest : List UInt8},branchP ns f d l k acc = some (pat,rest,k')→UpTo k k') ∧
  (∀ {d k k' : Nat} {c : UInt8} {pat : Pat} {r rest : List UInt8},atomP ns f d c r k = some (pat,rest,k')→k < 512∧UpTo (k+1) k')
 | 0=>⟨fun h=>(by rw [patP] at h;cases h),fun h=>(by rw [altsP] at h;cases h),fun h=>(by rw [branchP] at h;cases h),fun h=>(by rw [atomP] at h;cases h)⟩
 | f+1=>by
  obtain ⟨i1,i2,i3,i4⟩:=parts_up ns f
  refine ⟨fun h=>?_,fun h=>?_,fun h=>?_,fun h=>?_⟩
  ·obtain ⟨f',p,l1,k1,e,hb,ha⟩:=patP_cases h
   injection e with e
   subst e
   exact (i3 hb).trans (i2 ha)
  ·rcases altsP_cases h with ⟨_,_,_,rfl⟩ | ⟨c,r,_,⟨_,hk,f',p,l1,k1,e,hb,ha⟩ | ⟨_,_,_,_,rfl⟩⟩
   ·exact UpTo.refl _
   ·injection e with e
    subst e
    exact (UpTo.one hk).trans ((i3 hb).trans (i2 ha))
   ·exact UpTo.refl _
  ·rcases branchP_cases h with ⟨_,_,_,rfl⟩ | ⟨c,r,_,⟨_,_,_,rfl⟩ | ⟨_,f',p,l1,k1,q,l2,k2,e,ha,ho,hb⟩⟩
   ·exact UpTo.refl _
   ·exact UpTo.refl _
   ·injection e with e
    subst e
    obtain ⟨hk,hu⟩:=i4 ha
    exact (UpTo.one hk).trans (hu.trans ((ops_up _ ho).trans (i3 hb)))
  ·obtain ⟨hk,hcs⟩:=atomP_cases h
   refine ⟨hk,?_⟩
   rcases hcs with ⟨_,_,c2,hp⟩ | ⟨_,rfl,_⟩ | ⟨_,_,_,rfl⟩ | ⟨_,_,_,rfl,_⟩
   ·exact i1 hp
   ·exact UpTo.refl _
   ·exact UpTo.refl _
   ·exact UpTo.refl _
end
section
open Go.RowKit Go.Maps
end
section
open Go.RowKit Go.Maps
theorem getGo_hit {q : Int} {i : Nat} {s : List (Int × Int)} {S : List (List (Int × Int))} (h : hasB s q = true) : getGo q i (s :: S) = i:=by unfold getGo;rw [if_pos h]
theorem getGo_miss {q : Int} {i : Nat} {s : List (Int × Int)} {S : List (List (Int × Int))} (h : hasB s q = false) : getGo q i (s :: S) = getGo q (i+1) S:=by conv=>lhs;unfold getGo;rw [if_neg (by rw [h];simp)]
theorem vGet_any (base p x : Nat) (d : DbP) (r : Int) (w : World) (h : RfB w base p x d.names d.full) (ho : d.Ok) (hap : Apart d.sets) :
  Calls Tryz.prog 132 #[.pointer (some ⟨p,0,none⟩),.int .i32 r] w fun e w'=>e = .returned (.int .i64 (d.get r : Nat))∧w = w':=by
 obtain ⟨An,nn,cn,As,ns,cs,xs,hX⟩:=h.ex
 have hls:=hX.lenS
 have hfl:=full_len ho
 have hn0 : 0 < ns:=by
  have h3:=ho.head
  cases hd : d.names with
  | nil=>rw [hd] at h3;cases h3
  | cons a b=>rw [hd] at hfl;simp at hfl;omega
 have hn64 : ns≤64:=by have:=ho.few;omega
 obtain ⟨g,rfl,_,_⟩:=hX.hs.form hn0
 have c1:=hX.blk.cell 1
 simp only [zG,zH,zI] at c1
 have HF:=Lib.hid (fun i s (hi : d.full[i]? = some s)=>full_small ho hap hi)
 have HG : Hid (d.get r = getGo (askR r) 1 d.full.tail):=rfl
 have Hls:=Lib.hid (show d.full.length = ns from hls.2)
 have hcase : (r < 0∧askR r = 65533)∨(¬ r < 0∧1114111 < r∧askR r = 65533)∨(¬ r < 0∧¬ 1114111 < r∧askR r = r):=by
  unfold askR;split <;> omega
 obtain ⟨q,hq⟩ : ∃ q,askR r = q:=⟨_,rfl⟩
 rw [hq] at HG hcase
 clear ho hap h hfl hq
 rcases hcase with ⟨h1,rfl⟩ | ⟨h1,h2,rfl⟩ | ⟨h1,h2,rfl⟩
 ·go_enter Tryz.func132,Tryz.ntmps132
  go_wp2_with fail
  go_loopw [5] (fun v wr=>∃ k : Nat,v = .int .i64 (k+1 : Nat)∧k+1≤ns∧wr = w∧Hid (d.get r = getGo 65533 (k+1) (d.full.tail.drop k))) (fun v _=>ns - (intOf v).toNat)
  case atStart=>exact ⟨0,rfl,by omega,rfl,by rw [List.drop_zero];exact HG⟩
  case round =>
   obtain ⟨k,rfl,hk,rfl,HK⟩:=hrel
   by_cases hlt : k+1 < ns
   ·obtain ⟨s,Hs⟩ : ∃ s,Hid (d.full[k+1]? = some s):=⟨_,Lib.hid (List.getElem?_eq_getElem (show k+1 < d.full.length by have:=Hls.out;omega))⟩
    obtain ⟨⟨yA,yn,yc⟩,Hy⟩ : ∃ y,Hid (xs[k+1]? = some y):=⟨_,Lib.hid (List.getElem?_eq_getElem (show k+1 < xs.length by omega))⟩
    have hoy : Own wr base 248 2 yA yn yc (s.map encR):=hX.hx.own (k+1) (yA,yn,yc) s Hy.out Hs.out
    have hly : s.length = yn:=by simpa using hoy.len
    have hsm:=HF.out _ s Hs.out
    have hcell:=hX.hs.cell' rfl Hy.out
    have HH:=Lib.hid (sHas_any yA yn yc s 65533 wr (hoy.rd (by omega)) hly (by omega))
    have HD:=Lib.hid (drop_at (show d.full.tail[k]? = some s by rw [List.getElem?_tail];exact Hs.out))
    have hI : (k : Int)+1 < ns:=by omega
    rw [HD.out] at HK
    cases hv : hasB s 65533 with
    | true =>
     have HE:=Lib.hid (HK.out.trans (getGo_hit hv))
     rw [hv] at HH
     clear hv hly
     go_wp2_with (go_at_call 177;refine HH.out.mono ?_;rintro e w2 ⟨rfl,rfl⟩)
     go_ret
     exact ⟨by rw [HE.out];rfl,rfl⟩
    | false =>
     have HE:=Lib.hid (HK.out.trans (getGo_miss hv))
     rw [hv] at HH
     clear hv hly
     go_wp2_with (go_at_call 177;refine HH.out.mono ?_;rintro e w2 ⟨rfl,rfl⟩)
     go_roundw
     case rel=>exact ⟨k+1,by go_num,by omega,by first | rfl | trivial,HE⟩
     case measure=>simp [intOf];omega
   ·have HE : Hid (d.get r = 0):=Lib.hid (by rw [HK.out,List.drop_of_length_le (by rw [List.length_tail];have:=Hls.out;omega)];rfl)
    obtain rfl : k+1 = ns:=by omega
    go_wp2
    go_ret
    exact ⟨by rw [HE.out];rfl,rfl⟩
 ·go_enter Tryz.func132,Tryz.ntmps132
  go_wp2_with fail
  go_loopw [5] (fun v wr=>∃ k : Nat,v = .int .i64 (k+1 : Nat)∧k+1≤ns∧wr = w∧Hid (d.get r = getGo 65533 (k+1) (d.full.tail.drop k))) (fun v _=>ns - (intOf v).toNat)
  case atStart=>exact ⟨0,rfl,by omega,rfl,by rw [List.drop_zero];exact HG⟩
  case round =>
   obtain ⟨k,rfl,hk,rfl,HK⟩:=hrel
   by_cases hlt : k+1 < ns
   ·obtain ⟨s,Hs⟩ : ∃ s,Hid (d.full[k+1]? = some s):=⟨_,Lib.hid (List.getElem?_eq_getElem (show k+1 < d.full.length by have:=Hls.out;omega))⟩
    obtain ⟨⟨yA,yn,yc⟩,Hy⟩ : ∃ y,Hid (xs[k+1]? = some y):=⟨_,Lib.hid (List.getElem?_eq_getElem (show k+1 < xs.length by omega))⟩
    have hoy : Own wr base 248 2 yA yn yc (s.map encR):=hX.hx.own (k+1) (yA,yn,yc) s Hy.out Hs.out
    have hly : s.length = yn:=by simpa using hoy.len
    have hsm:=HF.out _ s Hs.out
    have hcell:=hX.hs.cell' rfl Hy.out
    have HH:=Lib.hid (sHas_any yA yn yc s 65533 wr (hoy.rd (by omega)) hly (by omega))
    have HD:=Lib.hid (drop_at (show d.full.tail[k]? = some s by rw [List.getElem?_tail];exact Hs.out))
    have hI : (k : Int)+1 < ns:=by omega
    rw [HD.out] at HK
    cases hv : hasB s 65533 with
    | true =>
     have HE:=Lib.hid (HK.out.trans (getGo_hit hv))
     rw [hv] at HH
     clear hv hly
     go_wp2_with (go_at_call 177;refine HH.out.mono ?_;rintro e w2 ⟨rfl,rfl⟩)
     go_ret
     exact ⟨by rw [HE.out];rfl,rfl⟩
    | false =>
     have HE:=Lib.hid (HK.out.trans (getGo_miss hv))
     rw [hv] at HH
     clear hv hly
     go_wp2_with (go_at_call 177;refine HH.out.mono ?_;rintro e w2 ⟨rfl,rfl⟩)
     go_roundw
     case rel=>exact ⟨k+1,by go_num,by omega,by first | rfl | trivial,HE⟩
     case measure=>simp [intOf];omega
   ·have HE : Hid (d.get r = 0):=Lib.hid (by rw [HK.out,List.drop_of_length_le (by rw [List.length_tail];have:=Hls.out;omega)];rfl)
    obtain rfl : k+1 = ns:=by omega
    go_wp2
    go_ret
    exact ⟨by rw [HE.out];rfl,rfl⟩
 ·go_enter Tryz.func132,Tryz.ntmps132
  go_wp2_with fail
  go_loopw [5] (fun v wr=>∃ k : Nat,v = .int .i64 (k+1 : Nat)∧k+1≤ns∧wr = w∧Hid (d.get q = getGo q (k+1) (d.full.tail.drop k))) (fun v _=>ns - (intOf v).toNat)
  case atStart=>exact ⟨0,rfl,by omega,rfl,by rw [List.drop_zero];exact HG⟩
  case round =>
   obtain ⟨k,rfl,hk,rfl,HK⟩:=hrel
   by_cases hlt : k+1 < ns
   ·obtain ⟨s,Hs⟩ : ∃ s,Hid (d.full[k+1]? = some s):=⟨_,Lib.hid (List.getElem?_eq_getElem (show k+1 < d.full.length by have:=Hls.out;omega))⟩
    obtain ⟨⟨yA,yn,yc⟩,Hy⟩ : ∃ y,Hid (xs[k+1]? = some y):=⟨_,Lib.hid (List.getElem?_eq_getElem (show k+1 < xs.length by omega))⟩
    have hoy : Own wr base 248 2 yA yn yc (s.map encR):=hX.hx.own (k+1) (yA,yn,yc) s Hy.out Hs.out
    have hly : s.length = yn:=by simpa using hoy.len
    have hsm:=HF.out _ s Hs.out
    have hcell:=hX.hs.cell' rfl Hy.out
    have HH:=Lib.hid (sHas_any yA yn yc s q wr (hoy.rd (by omega)) hly (by omega))
    have HD:=Lib.hid (drop_at (show d.full.tail[k]? = some s by rw [List.getElem?_tail];exact Hs.out))
    have hI : (k : Int)+1 < ns:=by omega
    rw [HD.out] at HK
    cases hv : hasB s q with
    | true =>
     have HE:=Lib.hid (HK.out.trans (getGo_hit hv))
     rw [hv] at HH
     clear hv hly
     go_wp2_with (go_at_call 177;refine HH.out.mono ?_;rintro e w2 ⟨rfl,rfl⟩)
     go_ret
     exact ⟨by rw [HE.out];rfl,rfl⟩
    | false =>
     have HE:=Lib.hid (HK.out.trans (getGo_miss hv))
     rw [hv] at HH
     clear hv hly
     go_wp2_with (go_at_call 177;refine HH.out.mono ?_;rintro e w2 ⟨rfl,rfl⟩)
     go_roundw
     case rel=>exact ⟨k+1,by go_num,by omega,by first | rfl | trivial,HE⟩
     case measure=>simp [intOf];omega
   ·have HE : Hid (d.get q = 0):=Lib.hid (by rw [HK.out,List.drop_of_length_le (by rw [List.length_tail];have:=Hls.out;omega)];rfl)
    obtain rfl : k+1 = ns:=by omega
    go_wp2
    go_ret
    exact ⟨by rw [HE.out];rfl,rfl⟩
end
section
open Go.RowKit
theorem Rd.atP {w : World} {A : Option Addr} {l : List Nat} {k : Nat} {x : Nat} (h : Rd w 1 A (l.map encN)) (hk : l[k]? = some x) : ∃ b off,A = some ⟨b,off,none⟩∧w.cell? ⟨b,off+k,none⟩ = some (.int .i64 (x : Nat)):=by
 obtain ⟨b,off,rfl,hc⟩:=h (by intro e;cases l with | nil=>simp at hk | cons _ _=>simp at e)
 have h0:=hc k 0 (encN x) (.int .i64 (x : Nat)) (by simp [hk]) rfl
 exact ⟨b,off,rfl,by simpa using h0⟩
def ScAt (g : Int→Nat) (s : ByteArray) (f q : Nat) (P : List Nat) (C : List Int) : Prop :=
 P++(runesGo s f q).map (·.2.1) = (runesP s).map (·.2.1)∧C++(runesGo s f q).map (fun x=>(g x.1 : Int)) = wCls g s∧s.size≤q+f∧q≤s.size
theorem scAt_first (g : Int→Nat) (s : ByteArray) : ScAt g s s.size 0 [] []:=⟨rfl,rfl,by omega,by omega⟩
theorem scAt_add {g : Int→Nat} {s : ByteArray} {f q R W : Nat} {P : List Nat} {C : List Int} (h : ScAt g s f q P C) (hp : q < s.size) (hd : Utf8.decode s q = (R,W)) (hw : 1≤W∧q+W≤s.size) :
  ∃ f',ScAt g s f' (q+W) (P++[q]) (C++[(g R : Int)]):=by
 obtain ⟨f',rfl,hg⟩:=runesGo_step (s:=s) (f:=f) hp h.2.2.1
 rw [hd] at hg
 refine ⟨f',?_,?_,by have:=h.2.2.1;omega,hw.2⟩
 ·rw [← h.1,hg];simp
 ·rw [← h.2.1,hg];simp
theorem scAt_end {g : Int→Nat} {s : ByteArray} {f q : Nat} {P : List Nat} {C : List Int} (h : ScAt g s f q P C) (hp : ¬ q < s.size) : P = (runesP s).map (·.2.1)∧C = wCls g s:=by
 have h1:=h.1
 have h2:=h.2.1
 rw [runesGo_end (by omega)] at h1 h2
 exact ⟨by simpa using h1,by simpa using h2⟩
structure ScM (w : World) (t : TypeId) (B base bt bi : Nat) (s : ByteArray) (q : Nat) (tl : List Value) (A1 : Option Addr) (n1 c1 : Nat) (A2 : Option Addr) (n2 c2 : Nat) (P : List Nat) (C : List Int) : Prop where
 blk : Blk w bt t (Value.slice A1 n1 c1 :: Value.slice A2 n2 c2 :: tl).toArray
 it : w.heap[bi]? = some (.stringIter s q)
 o1 : Own w base 3 1 A1 n1 c1 (P.map encN)
 o2 : Own w base 3 1 A2 n2 c2 (C.map encZ)
 ne : ∀ a b,A1 = some a→A2 = some b→a.block ≠ b.block
 lt : B≤bt∧bt < base∧B≤bi∧bi < base∧bt ≠ bi∧base≤w.heap.size
section
variable {w w' : World} {t : TypeId} {B base bt bi : Nat} {s : ByteArray} {q : Nat} {tl : List Value} {A1 : Option Addr} {n1 c1 : Nat} {A2 : Option Addr} {n2 c2 : Nat} {P : List Nat} {C : List Int}
theorem ScM.below (h : ScM w t B base bt bi s q tl A1 n1 c1 A2 n2 c2 P C) (hb : Below w.heap.size w w') : ScM w' t B base bt bi s q tl A1 n1 c1 A2 n2 c2 P C :=
 ⟨h.blk.below hb,(hb.block _ (Array.getElem?_eq_some_iff.1 h.it).1).trans h.it,h.o1.below hb,h.o2.below hb,h.ne,⟨h.lt.1,h.lt.2.1,h.lt.2.2.1,h.lt.2.2.2.1,h.lt.2.2.2.2.1,Nat.le_trans h.lt.2.2.2.2.2 hb.size⟩⟩
theorem ScM.iterAt (h : ScM w t B base bt bi s q tl A1 n1 c1 A2 n2 c2 P C) (k : Nat) : ScM (w.iterAt bi s k) t B base bt bi s k tl A1 n1 c1 A2 n2 c2 P C:=by
 have hl:=h.lt
 have hsame : ∀ b,b ≠ bi→(w.iterAt bi s k).heap[b]? = w.heap[b]?:=fun b hne=>Lib.iterAt_other w bi b s k hne
 refine ⟨(hsame bt hl.2.2.2.2.1).trans h.blk,Lib.iterAt_heap w bi s q k h.it,h.o1.keep fun a ha=>hsame _ ?_,h.o2.keep fun a ha=>hsame _ ?_,h.ne,?_⟩
 ·have:=(h.o1.lt a ha).1;omega
 ·have:=(h.o2.lt a ha).1;omega
 ·rw [Lib.iterAt_size];exact hl
theorem ScM.more1 (h : ScM w t B base bt bi s q tl A1 n1 c1 A2 n2 c2 P C) {o : Obj} {x : Nat} {A3 : Option Addr} {c3 : Nat} {w3 : World} (ho : Own w3 base 3 1 A3 (n1+1) c3 ((P++[x]).map encN)) (hg : (w.alloc o).grownBy w3 (A1.map (·.block))) (hA : A3 = A1∨A3 = some ⟨(w.alloc o).heap.size,0,none⟩) :
  Blk w3 bt t (Value.slice A1 n1 c1 :: Value.slice A2 n2 c2 :: tl).toArray∧ScM (w3.setCell ⟨bt,0,none⟩ (.slice A3 (n1+1) c3)) t B base bt bi s q tl A3 (n1+1) c3 A2 n2 c2 (P++[x]) C∧(∀ (V : World),Below B V w→Below B V (w3.setCell ⟨bt,0,none⟩ (.slice A3 (n1+1) c3))):=by
 have hl:=h.lt
 have hz : (w.alloc o).heap.size = w.heap.size+1:=by simp
 have hne : ∀ b,b < base→some b ≠ A1.map (·.block):=fun b hb e=>by
  cases A1 with
  | none=>cases e
  | some a=>have:=(h.o1.lt a rfl).1;simp at e;omega
 have hsame : ∀ b,b < w.heap.size→some b ≠ A1.map (·.block)→w3.heap[b]? = w.heap[b]?:=fun b hb e=>(hg.block b (by omega) e).trans (Below.heap_alloc w o b hb)
 have hk : Blk w3 bt t (Value.slice A1 n1 c1 :: Value.slice A2 n2 c2 :: tl).toArray:=(hsame bt h.blk.lt (hne bt hl.2.1)).trans h.blk
 have hset : ∀ b,b ≠ bt→(w3.setCell ⟨bt,0,none⟩ (.slice A3 (n1+1) c3)).heap[b]? = w3.heap[b]?:=fun b hb=>Below.heap_setCell w3 ⟨bt,0,none⟩ _ b hb
 refine ⟨hk,⟨by have:=hk.set_ 0 (.slice A3 (n1+1) c3);simpa using this,(hset bi (Ne.symm hl.2.2.2.2.1)).trans ((hsame bi (Array.getElem?_eq_some_iff.1 h.it).1 (hne bi hl.2.2.2.1)).trans h.it),ho.keep fun a ha=>hset _ ?_,(h.o2.keep (w':=w3) fun a ha=>hsame _ (h.o2.lt a ha).2 ?_).keep fun a ha=>hset _ ?_,?_,?_⟩,fun V hV=>?_⟩
 ·have:=(ho.lt a ha).1;omega
 ·intro e
  cases A1 with
  | none=>cases e
  | some b=>simp at e;exact h.ne b a rfl ha e.symm
 ·have:=(h.o2.lt a ha).1;omega
 ·intro a b ha hb
  rcases hA with e | e
  ·exact h.ne a b (by rw [← e];exact ha) hb
  ·rw [e] at ha;injection ha with ha;subst ha
   have:=(h.o2.lt b hb).2
   simp only;omega
 ·have:=hg.size
  simp [World.setCell];omega
 ·refine (below_app (hV.alloc (by have:=hl;omega) o) hg (by have:=hl;omega) (fun a ha=>by have:=(h.o1.lt a ha).1;omega)).setCell (p:=⟨bt,0,none⟩) hl.1 _
theorem ScM.more2 (h : ScM w t B base bt bi s q tl A1 n1 c1 A2 n2 c2 P C) {o : Obj} {x : Int} {A3 : Option Addr} {c3 : Nat} {w3 : World} (ho : Own w3 base 3 1 A3 (n2+1) c3 ((C++[x]).map encZ)) (hg : (w.alloc o).grownBy w3 (A2.map (·.block))) (hA : A3 = A2∨A3 = some ⟨(w.alloc o).heap.size,0,none⟩) :
  Blk w3 bt t (Value.slice A1 n1 c1 :: Value.slice A2 n2 c2 :: tl).toArray∧ScM (w3.setCell ⟨bt,1,none⟩ (.slice A3 (n2+1) c3)) t B base bt bi s q tl A1 n1 c1 A3 (n2+1) c3 P (C++[x])∧(∀ (V : World),Below B V w→Below B V (w3.setCell ⟨bt,1,none⟩ (.slice A3 (n2+1) c3))):=by
 have hl:=h.lt
 have hz : (w.alloc o).heap.size = w.heap.size+1:=by simp
 have hne : ∀ b,b < base→some b ≠ A2.map (·.block):=fun b hb e=>by
  cases A2 with
  | none=>cases e
  | some a=>have:=(h.o2.lt a rfl).1;simp at e;omega
 have hsame : ∀ b,b < w.heap.size→some b ≠ A2.map (·.block)→w3.heap[b]? = w.heap[b]?:=fun b hb e=>(hg.block b (by omega) e).trans (Below.heap_alloc w o b hb)
 have hk : Blk w3 bt t (Value.slice A1 n1 c1 :: Value.slice A2 n2 c2 :: tl).toArray:=(hsame bt h.blk.lt (hne bt hl.2.1)).trans h.blk
 have hset : ∀ b,b ≠ bt→(w3.setCell ⟨bt,1,none⟩ (.slice A3 (n2+1) c3)).heap[b]? = w3.heap[b]?:=fun b hb=>Below.heap_setCell w3 ⟨bt,1,none⟩ _ b hb
 refine ⟨hk,⟨by have:=hk.set_ 1 (.slice A3 (n2+1) c3);simpa using this,(hset bi (Ne.symm hl.2.2.2.2.1)).trans ((hsame bi (Array.getElem?_eq_some_iff.1 h.it).1 (hne bi hl.2.2.2.1)).trans h.it),(h.o1.keep (w':=w3) fun a ha=>hsame _ (h.o1.lt a ha).2 ?_).keep fun a ha=>hset _ ?_,ho.keep fun a ha=>hset _ ?_,?_,?_⟩,fun V hV=>?_⟩
 ·intro e
  cases A2 with
  | none=>cases e
  | some b=>simp at e;exact h.ne a b ha rfl e
 ·have:=(h.o1.lt a ha).1;omega
 ·have:=(ho.lt a ha).1;omega
 ·intro a b ha hb
  rcases hA with e | e
  ·exact h.ne a b ha (by rw [← e];exact hb)
  ·rw [e] at hb;injection hb with hb;subst hb
   have:=(h.o1.lt a ha).2
   simp only;omega
 ·have:=hg.size
  simp [World.setCell];omega
 ·refine (below_app (hV.alloc (by have:=hl;omega) o) hg (by have:=hl;omega) (fun a ha=>by have:=(h.o2.lt a ha).1;omega)).setCell (p:=⟨bt,1,none⟩) hl.1 _
end
end
section
open Go.RowKit
theorem scAt_endL {g : Int→Nat} {s : ByteArray} {f q : Nat} {P : List Nat} {C : List Int} (h : ScAt g s f q P C) (hp : ¬ q < s.size) : P = (runesP s).map (·.2.1)∧C = lCls g s:=scAt_end h hp
theorem res_tscan (w : World) (b : Nat) (tmps : Array Value) (ht : tmps.getD 2 undef = .pointer (some ⟨b,0,none⟩)) {A1 A2 : Option Addr} {n1 c1 n2 c2 : Nat} (h : Blk w b 186 #[.slice A1 n1 c1,.slice A2 n2 c2]) :
  (results Tryz.f149 tmps).run Tryz.prog w = .ok (.agg #[.slice A1 n1 c1,.slice A2 n2 c2]) w:=by
 have ht' : tmps[2]?.getD undef = .pointer (some ⟨b,0,none⟩):=by simpa [Array.getD_eq_getD_getElem?] using ht
 have h0:=h.cell 0
 have h1:=h.cell 1
 simp only [zG,zH,zI] at h0 h1
 simp [results,Tryz.results149,go_sem,ht',h0,h1]
theorem tscan_any (s : ByteArray) (w : World) (hE : Env w) (hs : s.size≤1000000) :
  Calls Tryz.prog 149 #[.string s] w fun e w'=>∃ A1 n1 c1 A2 n2 c2,e = .returned (.agg #[.slice A1 n1 c1,.slice A2 n2 c2])∧Own w' w.heap.size 3 1 A1 n1 c1 (((runesP s).map (·.2.1)).map encN) ∧
   Own w' w.heap.size 3 1 A2 n2 c2 ((lCls gL s).map encZ)∧Below w.heap.size w w':=by
 obtain ⟨i0,hi0,hz0,hz1,hz2⟩:=info_parts infoInt
 have hB0 : Below w.heap.size w (w.alloc (.cells #[.slice none 0 0,.slice none 0 0] 186)):=(Below.refl _ _).alloc (Nat.le_refl _) _
 have hR0:=Blk.new w 186 #[.slice none 0 0,.slice none 0 0]
 have hE0:=hE.below hB0
 go_enter Tryz.func149,Tryz.ntmps149
 generalize hT : ByteArray.mk _ = T
 have HN : newP T.data.toList = .ok linesD:=by rw [← hT];exact new_K (by kernel_rfl) (by kernel_rfl)
 have hTl : T.data.toList.length≤maxLen:=by rw [← hT];exact of_decide_eq_true (by kernel_rfl)
 clear hT
 have HC:=wNew_any T.data.toList _ hE0 hTl
 rw [HN,bytes_is] at HC
 replace HC:=Lib.hid HC
 clear HN hTl
 go_wp2_with fail
 refine HC.out.mono ?_
 rintro e w1 ⟨⟨p,rfl,hd⟩,hb1⟩
 clear HC
 have hR1:=hR0.below hb1
 have hB1 : Below w.heap.size w w1:=hB0.trans (hb1.mono (by simp))
 have hsz1 : w.heap.size < w1.heap.size:=hR1.lt
 clear hR0 hB0 hE0 hb1
 have hM0 : ScM ((w1.alloc (.cells #[.slice none 0 0,.slice none 0 0] 186)).iter s 0) 186 w1.heap.size (w1.heap.size+2) w1.heap.size (w1.heap.size+1) s 0 [] none 0 0 none 0 0 [] [] :=
  ⟨(Blk.new w1 _ _).alloc _,(by have:=iter_new (w1.alloc (.cells #[.slice none 0 0,.slice none 0 0] 186)) s 0;simpa using this),Own.nil_ _ _ _ _,Own.nil_ _ _ _ _,fun _ _ h=>(by cases h),(by unfold World.iter;simp)⟩
 have hB2 : Below w1.heap.size w1 ((w1.alloc (.cells #[.slice none 0 0,.slice none 0 0] 186)).iter s 0):=below_iter ((Below.refl _ _).alloc (Nat.le_refl _) _) (by simp) _ _
 have HA0:=Lib.hid (scAt_first gL s)
 have HD:=Lib.hid hd
 clear hd hE
 go_wp2_with fail
 go_loopw [7] (fun _ wr=>∃ (q f : Nat) (A1 : Option Addr) (n1 c1 : Nat) (A2 : Option Addr) (n2 c2 : Nat) (P : List Nat) (C : List Int),ScM wr 186 w1.heap.size (w1.heap.size+2) w1.heap.size (w1.heap.size+1) s q [] A1 n1 c1 A2 n2 c2 P C ∧
   n1≤q∧n2≤q∧q≤s.size∧Hid (ScAt gL s f q P C)∧Below w1.heap.size w1 wr) (fun _ wr=>s.size - wr.iterPos (w1.heap.size+1))
 case atStart=>exact ⟨0,s.size,none,0,0,none,0,0,[],[],hM0,by omega,by omega,by omega,HA0,hB2⟩
 case round =>
  clear hM0 hB2 HA0
  obtain ⟨q,f,A1,n1,c1,A2,n2,c2,P,C,hM,hn1,hn2,hq,HA,hb⟩:=hrel
  have hit:=hM.it
  have Hpos:=Lib.hid (iterPos_of hit)
  by_cases hp : q < s.size
  ·obtain ⟨⟨R,W⟩,HDc⟩ : ∃ d,Utf8.decode s q = d:=⟨_,rfl⟩
   have hd:=dec_bd s q hp
   have hnx : ∀ ty,(Instr.next (.pointer (some ⟨w1.heap.size+1,0,none⟩)) true ty).run Tryz.prog wr = _:=fun ty=>Lib.run_next_any_at wr (w1.heap.size+1) s q ty hit hp
   have hM2:=hM.iterAt (q+(Utf8.decode s q).2)
   have hb2:=Lib.below_iterAt hb (k:=w1.heap.size+1) (by omega) s (q+(Utf8.decode s q).2)
   rw [HDc] at hd hnx hM2 hb2
   simp only at hd hnx hM2 hb2
   obtain ⟨g,HA'⟩:=scAt_add HA.out hp HDc (by omega)
   have HA':=Lib.hid HA'
   clear HA HDc hM hb hit
   generalize wr.iterAt (w1.heap.size+1) s (q+W) = w2 at hnx hM2 hb2
   have k0:=hM2.blk.cell 0
   simp only [zG,zH] at k0
   have hsz2:=hM2.lt.2.2.2.2.2
   go_upto_region 7 with (at_builtin;go_must (refine wpList_app rfl (.tmp 21) (.tmp 23) _ rfl (w1.heap.size+2) 3 i0 _ 1 8 Tryz.underlying52 hi0 hz0 hz1 hz2 rfl (by omega) A1 n1 c1 (P.map encN) rfl (hM2.o1.alloc _) _ 1 1 [encN q] rfl rfl (Rd.newAt (by simp) rfl) (encN_ok [q]) (by unfold maxLen;omega) (by omega) (by simp;omega) ?_);intro A3 c3 w3 ho3 hg3 hA3;have HM:=hM2.more1 (x:=q) (by rw [List.map_append];exact ho3) hg3 hA3;have k3:=HM.1.cell 0;have f3:=HM.1.frozen 0;simp only [zG,zH] at k3)
   have hM5:=HM.2.1
   have hb5:=HM.2.2 _ hb2
   clear HM k3 f3 hg3 ho3 hA3 hM2 hb2 hnx k0
   generalize w3.setCell ⟨w1.heap.size,0,none⟩ (.slice A3 (n1+1) c3) = w5 at hM5 hb5 ⊢
   have k5:=hM5.blk.cell 1
   simp only [zG,zH,zI] at k5
   have HG:=Lib.hid (wGet_any p linesD R w5.drew ((HD.out.below hb5).drewN 1) linesOk.1 linesOk.2.1)
   have hsz5:=hM5.lt.2.2.2.2.2
   go_wp2_with fail
   refine wp_region_last (S:=fun V=>V.cell? ⟨w1.heap.size,1,none⟩ = some (.slice A2 n2 c2)) 8 rfl (by kernel_rfl) (by kernel_rfl) (by kernel_rfl) k5 (fun hHeld=>?_)
   simp only [List.dropLast_cons_cons,List.dropLast_singleton]
   refine tkH (i:=0) (v:=?_) rfl ?_ ?_;rotate_left;focus ((intro w hSw;(try dsimp only at hSw);go_simp);try with_reducible rfl)
   (try simp only [Act.put,zA,zC,zD,zE,zF])
   refine tkH (i:=1) (v:=?_) rfl ?_ ?_;rotate_left;focus ((intro w hSw;(try dsimp only at hSw);go_simp);try with_reducible rfl)
   (try simp only [Act.put,zA,zB,zC,zD,zE,zF])
   refine tkH (i:=2) (v:=?_) rfl ?_ ?_;rotate_left;focus ((intro w hSw;(try dsimp only at hSw);go_simp);try with_reducible rfl)
   (try simp only [Act.put,zA,zB,zC,zD,zE,zF])
   refine tkH (i:=3) (v:=?_) rfl ?_ ?_;rotate_left;focus ((intro w hSw;(try dsimp only at hSw);go_simp);try with_reducible rfl)
   (try simp only [Act.put,zA,zB,zC,zD,zE,zF])
   refine wpAnyH_ready (rs:=[4]) (by kernel_rfl) (by simp) ?_
   refine AllReadyH.cons rfl (fun K hK=>?_) AllReadyH.nil
   go_simp
   refine HG.out.mono ?_
   rintro e wz ⟨rfl,hbz⟩
   have hMz:=(hM5.below (w':=w5.drew) (Below.refl _ _).drew).below hbz
   have hbbz:=below_step (below_drewN hb5 1) hbz hb5.size
   have kz:=hMz.blk.cell 1
   simp only [zG,zH,zI] at kz
   have hszz:=hMz.lt.2.2.2.2.2
   refine hK.out _ _ kz (fun hHeld=>?_)
   clear hK K
   refine wpAnyH_ready (rs:=[5]) (by kernel_rfl) (by simp) ?_
   refine AllReadyH.cons rfl (fun K hK=>?_) AllReadyH.nil
   go_simp
   refine hK.out _ _ (cell_keep kz ((Below.refl _ _).alloc (Nat.le_refl _) _)) (fun hHeld=>?_)
   clear hK K
   refine wpAnyH_ready (rs:=[6]) (by kernel_rfl) (by simp) ?_
   refine AllReadyH.cons rfl (fun K hK=>?_) AllReadyH.nil
   refine step_app rfl (.tmp 27) (.tmp 31) _ rfl (w1.heap.size+2) 3 i0 _ 1 8 Tryz.underlying52 hi0 hz0 hz1 hz2 rfl (by omega) A2 n2 c2 (C.map encZ) rfl (hMz.o2.alloc _) _ 1 1 [encZ (gL R : Int)] rfl rfl (Rd.newAt (by simp) rfl) (encZ_ok [(gL R : Int)]) (by unfold maxLen;omega) (by omega) (by simp;omega) ?_
   intro A4 c4 w4 ho4 hg4 hA4
   have HM:=hMz.more2 (x:=(gL R : Int)) (by rw [List.map_append];exact ho4) hg4 hA4
   have k4:=HM.1.cell 1
   have f4:=HM.1.frozen 1
   simp only [zG,zH,zI] at k4
   refine hK.out _ _ k4 (fun hHeld=>?_)
   clear hK K
   refine tkH (i:=7) (v:=?_) rfl ?_ ?_;rotate_left;focus ((intro w hSw;(try dsimp only at hSw);go_simp);try with_reducible rfl)
   (try simp only [Act.put,zA,zB,zC,zD,zE,zF])
   refine wpAnyH_done (by kernel_rfl) ?_ _
   refine tailQ_end (wpOp_step (i:=8) rfl (fun K hK=>?_))
   go_simp
   refine hK _ _ ?_
   clear hK K
   have hM6:=HM.2.1
   have hb6:=HM.2.2 _ hbbz
   go_wp2
   go_roundw
   case rel=>exact ⟨q+W,g,_,_,_,_,_,_,P++[q],C++[(gL R : Int)],hM6,by omega,by omega,by omega,HA',hb6⟩
   case measure=>rw [iterPos_of hM6.it,Hpos.out];omega
  ·have hnx : ∀ ty,(Instr.next (.pointer (some ⟨w1.heap.size+1,0,none⟩)) true ty).run Tryz.prog wr = _:=fun ty=>Lib.run_next_end_at wr (w1.heap.size+1) s q ty hit hp
   have HE:=Lib.hid (scAt_endL HA.out hp)
   have hRr:=hR1.below hb
   have k0:=hM.blk.cell 0
   have k1:=hM.blk.cell 1
   have r0:=hRr.cell 0
   have r1:=hRr.cell 1
   have g0:=hRr.frozen 0
   have g1:=hRr.frozen 1
   simp only [zG,zH,zI] at k0 k1 r0 r1
   go_wp2
   have hl1 : ∀ a,A1 = some a→a.block ≠ w.heap.size:=fun a ha=>by have:=(hM.o1.lt a ha).1;omega
   have hl2 : ∀ a,A2 = some a→a.block ≠ w.heap.size:=fun a ha=>by have:=(hM.o2.lt a ha).1;omega
   have hBk:=((hRr.set_ 0 (.slice A1 n1 c1)).set_ 1 (.slice A2 n2 c2))
   have ho1:=(((hM.o1.setCell (p:=⟨w.heap.size,0,none⟩) hl1 (.slice A1 n1 c1)).setCell (p:=⟨w.heap.size,1,none⟩) hl1 (.slice A2 n2 c2)).more (b':=w.heap.size) (by omega))
   have ho2:=(((hM.o2.setCell (p:=⟨w.heap.size,0,none⟩) hl2 (.slice A1 n1 c1)).setCell (p:=⟨w.heap.size,1,none⟩) hl2 (.slice A2 n2 c2)).more (b':=w.heap.size) (by omega))
   have hbb:=(((below_step hB1 hb hB1.size).setCell (p:=⟨w.heap.size,0,none⟩) (Nat.le_refl _) (.slice A1 n1 c1)).setCell (p:=⟨w.heap.size,1,none⟩) (Nat.le_refl _) (.slice A2 n2 c2))
   rw [HE.out.1] at ho1
   rw [HE.out.2] at ho2
   refine bodyPost_ret (res_tscan _ w.heap.size _ rfl (by simpa using hBk)) rfl ?_
   exact ⟨_,_,_,_,_,_,rfl,ho1,ho2,hbb⟩
end
section
open Go.RowKit
def lBl (c : Int) : Bool:=c == 4 || c == 1 || c == 2 || c == 3 || c == 5
def trR (g : Int→Nat) (l : List (Nat × Nat × Nat)) : Nat:=(((l.reverse.dropWhile fun x=>lBl (g (x.1 : Int))).head?).map (·.2.2)).getD 0
def trailP (g : Int→Nat) (s : ByteArray) : Nat:=trR g (runesP s)
theorem trR_snoc (g : Int→Nat) (l : List (Nat × Nat × Nat)) (x : Nat × Nat × Nat) : trR g (l++[x]) = if lBl (g (x.1 : Int)) then trR g l else x.2.2:=by
 unfold trR
 rw [List.reverse_append,List.reverse_singleton,List.singleton_append,List.dropWhile_cons]
 split <;> rfl
theorem takeWhile_snoc {l : List (Nat × Nat × Nat)} {x : Nat × Nat × Nat} (h : (l++[x]).Pairwise fun a b=>a.2.1 < b.2.1) : (l++[x]).takeWhile (fun y=>decide (y.2.1 < x.2.1)) = l:=by
 rw [List.pairwise_append] at h
 rw [List.takeWhile_append_of_pos fun a ha=>decide_eq_true (h.2.2 a ha x (by simp))]
 simp
theorem contig_last : ∀ {l : List (Nat × Nat × Nat)} {a z : Nat} {x : Nat × Nat × Nat},Contig a (l++[x]) z→x.2.2 = z
 | [],_,_,_,h=>h.2.2
 | _ :: l,_,_,_,h=>contig_last (l:=l) h.2.2
theorem trail_empty {g : Int→Nat} {t : ByteArray} (h : ¬ 0 < t.size) : trailP g t = t.size:=by
 have : runesP t = []:=by unfold runesP;rw [show t.size = 0 by omega];rfl
 unfold trailP
 rw [this,show t.size = 0 by omega];rfl
theorem trail_step (g : Int→Nat) (t : ByteArray) (h : 0 < t.size) : ∃ r w : Nat,Lib.decodeLastL t.data.toList = (r,w)∧1≤w∧w≤t.size∧trailP g t = if lBl (g (r : Int)) then trailP g (t.extract 0 (t.size - w)) else t.size:=by
 have hne : runesP t ≠ []:=fun e=>by
  obtain ⟨k,hk,e2⟩:=runesGo_step (s:=t) (f:=t.size) (a:=0) h (by omega)
  unfold runesP at e
  rw [e] at e2
  cases e2
 rcases List.eq_nil_or_concat (runesP t) with e | ⟨l,x,e⟩
 ·exact absurd e hne
 ·rw [List.concat_eq_append] at e
  have hx : x ∈ runesP t:=by rw [e];simp
  have hend : x.2.2 = t.size:=by
   have hc:=runesP_contig t
   rw [e] at hc
   exact contig_last hc
  have hb:=runesP_bd x hx
  have hr:=runes_rise' t
  have hp:=runesP_prefix t (z:=x.2.1) (by omega) (.inr (.inr ⟨x,hx,rfl⟩))
  rw [e] at hr hp
  rw [takeWhile_snoc hr] at hp
  refine ⟨x.1,x.2.2 - x.2.1,last_rune t hx hend,by omega,by omega,?_⟩
  rw [show t.size - (x.2.2 - x.2.1) = x.2.1 by omega]
  unfold trailP
  rw [hp,e,trR_snoc,hend]
theorem eLast_any (s : ByteArray) (w : World) (hT : Tabs w) (h0 : 0 < s.size) (hs : s.size≤1000000) :
  Calls Tryz.prog 74 #[.string s] w fun e w'=>e = .returned (.tuple #[.int .i32 (Lib.decodeLastL s.data.toList).1,.int .i64 (Lib.decodeLastL s.data.toList).2])∧Below w.heap.size w w':=by
 have HC:=Lib.hid (Tryz.utf8_DecodeLastRuneInString s w (by omega) hT)
 have hem : s.toList.isEmpty = false:=by
  rw [ByteArray.toList_eq]
  cases hq : s.data.toList with
  | nil=>rw [← size_data,hq] at h0;simp at h0
  | cons a b=>rfl
 obtain ⟨r,hr⟩ : ∃ r,Lib.decodeLastL s.data.toList = r:=⟨_,rfl⟩
 rw [hr] at HC ⊢
 clear hr
 go_enter Tryz.func74,Tryz.ntmps74
 go_wp2_with fail
 refine HC.out.mono ?_
 rintro e w1 ⟨rfl,hb⟩
 go_wp2
 go_ret2
 exact ⟨rfl,hb⟩
def txtSize : Value→Nat
 | .string t=>t.size
 | _=>0
theorem tTrail_any (s : ByteArray) (w : World) (hE : Env w) (hs : s.size≤1000000) :
  Calls Tryz.prog 94 #[.string s] w fun e w'=>e = .returned (.int .i64 (trailP gL s : Nat))∧Below w.heap.size w w':=by
 go_enter Tryz.func94,Tryz.ntmps94
 generalize hT : ByteArray.mk _ = T
 have HN : newP T.data.toList = .ok linesD:=by rw [← hT];exact new_K (by kernel_rfl) (by kernel_rfl)
 have hTl : T.data.toList.length≤maxLen:=by rw [← hT];exact of_decide_eq_true (by kernel_rfl)
 clear hT
 have HC:=wNew_any T.data.toList _ hE hTl
 rw [HN,bytes_is] at HC
 replace HC:=Lib.hid HC
 clear HN hTl
 go_wp2_with fail
 go_step3
 go_wp2_with fail
 refine HC.out.mono ?_
 rintro e w1 ⟨⟨p,rfl,hd⟩,hb1⟩
 clear HC
 have HE1:=Lib.hid (hE.below hb1)
 have HD:=Lib.hid hd
 clear hd hE
 have hsz1:=hb1.size
 go_wp2_with fail
 go_step3
 go_wp2_with fail
 go_loopw [0] (fun v wr=>∃ t : ByteArray,v = .string t∧t.size≤s.size∧Hid (trailP gL t = trailP gL s)∧Below w1.heap.size w1 wr) (fun v _=>txtSize v)
 case atStart=>exact ⟨s,rfl,Nat.le_refl _,Lib.hid rfl,Below.refl _ _⟩
 case round =>
  obtain ⟨t,rfl,ht,HTr,hb⟩:=hrel
  have hbb:=below_step hb1 hb hsz1
  by_cases h0 : 0 < t.size
  ·obtain ⟨r,wd,hdl,h1,h2,hst⟩:=trail_step gL t h0
   have HL:=Lib.hid (eLast_any t wr ((HE1.out.below hb).tabs) h0 (by omega))
   rw [hdl] at HL
   have HG:=Lib.hid (fun W (h : Below w1.heap.size w1 W)=>wGet_any p linesD r W (HD.out.below h) linesOk.1 linesOk.2.1)
   obtain ⟨c,Hc⟩ : ∃ c,Hid (linesD.get (r : Int) = c):=⟨_,Lib.hid rfl⟩
   have HS:=Lib.hid hst
   have hgc : gL (r : Int) = c:=Hc.out
   rw [hgc] at HS
   rw [Hc.out] at HG
   clear hst hdl hgc
   have e1 : (t.size : Int) - (wd : Int) = ((t.size - wd : Nat) : Int):=by omega
   have e2 : t.size - wd≤t.size:=by omega
   have e3 : ((t.size - wd : Nat) : Int)≤(t.size : Int):=by omega
   have hsm : (t.extract 0 (t.size - wd)).size = t.size - wd:=by rw [ByteArray.size_extract];omega
   cases h4 : (((c : Nat) : Int) == 4) with
   | true =>
    have HT' : Hid (trailP gL (t.extract 0 (t.size - wd)) = trailP gL s):=Lib.hid (by rw [← HTr.out,HS.out,if_pos (by unfold lBl;rw [h4];simp)])
    go_wp2_with fail
    refine HL.out.mono ?_
    rintro e w4 ⟨rfl,hb4⟩
    have hb4':=below_step hb hb4 hb.size
    go_wp2_with fail
    refine (HG.out _ hb4').mono ?_
    rintro e w5 ⟨rfl,hb5⟩
    have hb5':=below_step hb4' hb5 hb4'.size
    replace hb5:=hb4.trans (hb5.mono hb4.size)
    go_wp2
    go_roundw
    case rel=>exact ⟨t.extract 0 (t.size - wd),by first | rfl | trivial,by rw [hsm];omega,HT',hb5'⟩
    case measure=>simp only [txtSize,hsm];omega
   | false =>
    cases h5 : (((c : Nat) : Int) == 1) with
    | true =>
     have HT' : Hid (trailP gL (t.extract 0 (t.size - wd)) = trailP gL s):=Lib.hid (by rw [← HTr.out,HS.out,if_pos (by unfold lBl;rw [h5];simp)])
     go_wp2_with fail
     refine HL.out.mono ?_
     rintro e w4 ⟨rfl,hb4⟩
     have hb4':=below_step hb hb4 hb.size
     go_wp2_with fail
     refine (HG.out _ hb4').mono ?_
     rintro e w5 ⟨rfl,hb5⟩
     have hb5':=below_step hb4' hb5 hb4'.size
     replace hb5:=hb4.trans (hb5.mono hb4.size)
     go_wp2
     go_roundw
     case rel=>exact ⟨t.extract 0 (t.size - wd),by first | rfl | trivial,by rw [hsm];omega,HT',hb5'⟩
     case measure=>simp only [txtSize,hsm];omega
    | false =>
     cases h6 : (((c : Nat) : Int) == 2) with
     | true =>
      have HT' : Hid (trailP gL (t.extract 0 (t.size - wd)) = trailP gL s):=Lib.hid (by rw [← HTr.out,HS.out,if_pos (by unfold lBl;rw [h6];simp)])
      go_wp2_with fail
      refine HL.out.mono ?_
      rintro e w4 ⟨rfl,hb4⟩
      have hb4':=below_step hb hb4 hb.size
      go_wp2_with fail
      refine (HG.out _ hb4').mono ?_
      rintro e w5 ⟨rfl,hb5⟩
      have hb5':=below_step hb4' hb5 hb4'.size
      replace hb5:=hb4.trans (hb5.mono hb4.size)
      go_wp2
      go_roundw
      case rel=>exact ⟨t.extract 0 (t.size - wd),by first | rfl | trivial,by rw [hsm];omega,HT',hb5'⟩
      case measure=>simp only [txtSize,hsm];omega
     | false =>
      cases h7 : (((c : Nat) : Int) == 3) with
      | true =>
       have HT' : Hid (trailP gL (t.extract 0 (t.size - wd)) = trailP gL s):=Lib.hid (by rw [← HTr.out,HS.out,if_pos (by unfold lBl;rw [h7];simp)])
       go_wp2_with fail
       refine HL.out.mono ?_
       rintro e w4 ⟨rfl,hb4⟩
       have hb4':=below_step hb hb4 hb.size
       go_wp2_with fail
       refine (HG.out _ hb4').mono ?_
       rintro e w5 ⟨rfl,hb5⟩
       have hb5':=below_step hb4' hb5 hb4'.size
       replace hb5:=hb4.trans (hb5.mono hb4.size)
       go_wp2
       go_roundw
       case rel=>exact ⟨t.extract 0 (t.size - wd),by first | rfl | trivial,by rw [hsm];omega,HT',hb5'⟩
       case measure=>simp only [txtSize,hsm];omega
      | false =>
       cases h8 : (((c : Nat) : Int) == 5) with
       | true =>
        have HT' : Hid (trailP gL (t.extract 0 (t.size - wd)) = trailP gL s):=Lib.hid (by rw [← HTr.out,HS.out,if_pos (by unfold lBl;rw [h8];simp)])
        go_wp2_with fail
        refine HL.out.mono ?_
        rintro e w4 ⟨rfl,hb4⟩
        have hb4':=below_step hb hb4 hb.size
        go_wp2_with fail
        refine (HG.out _ hb4').mono ?_
        rintro e w5 ⟨rfl,hb5⟩
        have hb5':=below_step hb4' hb5 hb4'.size
        replace hb5:=hb4.trans (hb5.mono hb4.size)
        go_wp2
        go_roundw
        case rel=>exact ⟨t.extract 0 (t.size - wd),by first | rfl | trivial,by rw [hsm];omega,HT',hb5'⟩
        case measure=>simp only [txtSize,hsm];omega
       | false =>
        have HV : Hid (trailP gL s = t.size):=Lib.hid (by rw [← HTr.out,HS.out,if_neg (by unfold lBl;rw [h4,h5,h6,h7,h8];simp)])
        go_wp2_with fail
        refine HL.out.mono ?_
        rintro e w4 ⟨rfl,hb4⟩
        have hb4':=below_step hb hb4 hb.size
        go_wp2_with fail
        refine (HG.out _ hb4').mono ?_
        rintro e w5 ⟨rfl,hb5⟩
        have hb5':=below_step hb4' hb5 hb4'.size
        replace hb5:=hb4.trans (hb5.mono hb4.size)
        go_wp2
        try rw [Exit.noGoto_ret]
        go_ret
        exact ⟨by rw [HV.out];rfl,below_step hbb hb5 hbb.size⟩
  ·have HV : Hid (trailP gL s = t.size):=Lib.hid (by rw [← HTr.out,trail_empty h0])
   have h0' : ¬ (0 : Int) < (t.size : Int):=by omega
   go_wp2
   try rw [Exit.noGoto_ret]
   go_ret
   exact ⟨by rw [HV.out];rfl,hbb⟩
end
section
open Go.RowKit Go.Maps
theorem ret_pair {a b c d : Value} (h1 : a = c) (h2 : b = d) : Ending.returned (.tuple #[a,b]) = .returned (.tuple #[c,d]):=by rw [h1,h2]
theorem vcut_any (L : List UInt8) (w : World) (hL : L.length≤1000000) :
  Calls Tryz.prog 229 #[.string (bytesOf L)] w fun e w'=>e = .returned (.tuple #[.string (bytesOf (L.take (hashP L))),.int .i64 (fv (findP 59 (L.take (hashP L))))])∧Below w.heap.size w w':=by
 have HIS:=Lib.hid (cutD_is L)
 have hsz : (bytesOf L).size = L.length:=bytesOf_size L
 go_enter Tryz.func229,Tryz.ntmps229
 go_wp2
 go_loopw [4,5] (fun a v wr=>∃ (semi : Option Nat) (i : Nat),a = .int .i64 (fv semi)∧v = .int .i64 i∧i≤L.length∧Hid (CutAt L i semi)∧Below w.heap.size w wr) (fun _ v _=>L.length - (intOf v).toNat)
 case atStart=>exact ⟨none,0,rfl,rfl,by omega,cutAt_first L,Below.refl _ _⟩
 case round =>
  obtain ⟨semi,i,rfl,rfl,hi,HC,hb⟩:=hrel
  by_cases hlt : i < L.length
  ·have HQ:=Lib.hid (sQuoted_any (bytesOf L) i wr (by omega) (by omega))
   have hqq:=quoted_qt (bytesOf L) i (by omega)
   rw [bytesOf_list] at hqq
   have hp : i < (bytesOf L).size:=by omega
   have hix:=index_at (bytesOf L) i i rfl hp
   obtain ⟨x,hx⟩ : ∃ x,(bytesOf L)[i]'hp = x:=⟨_,rfl⟩
   have Hx : Hid (L[i]? = some x):=Lib.hid (by have:=get_list hp;rw [bytesOf_list,hx] at this;exact this)
   have hgi : (((bytesOf L)[i]'hp).toNat : Int) = (x.toNat : Int):=by rw [hx]
   rw [hx] at hix
   clear hx
   cases hq : qtL (L.drop i) with
   | some k =>
    rw [hq] at hqq
    obtain ⟨q1,q2⟩:=hqq
    have HC':=Lib.hid (cutAt_qt HC.out hq)
    have hik : i+k≤L.length:=HC'.out.1
    generalize quotedP (bytesOf L) i = Q at HQ q1 q2
    obtain ⟨r,wd,ok⟩:=Q
    simp only at q1 q2
    subst q1
    have hk3:=(qtL_some hq).1
    clear hq
    go_wp2_with (go_at_call 278;refine HQ.out.mono ?_;rintro e w2 ⟨rfl,hb2⟩)
    go_roundw
    case rel=>exact ⟨semi,i+k,rfl,by go_num,hik,HC',below_step hb hb2 hb.size⟩
    case measure=>simp [intOf];omega
   | none =>
    rw [hq] at hqq
    generalize quotedP (bytesOf L) i = Q at HQ hqq
    obtain ⟨r,wd,ok⟩:=Q
    simp only at hqq
    subst hqq
    have h35 : x = 35 ↔ (x.toNat : Int) = 35:=by have h1 : x = 35 ↔ x.toNat = 35:=u8_eq (n:=35) (by omega);rw [h1];omega
    have h59 : x = 59 ↔ (x.toNat : Int) = 59:=by have h1 : x = 59 ↔ x.toNat = 59:=u8_eq (n:=59) (by omega);rw [h1];omega
    have HH:=Lib.hid (fun h=>cutAt_hash HC.out Hx.out hq (h35.2 h))
    have HS:=Lib.hid (fun h hs=>cutAt_semi HC.out Hx.out hq (h59.2 h) hs)
    have HGo:=Lib.hid (fun (h : ¬ (x.toNat : Int) = 35) (hs : ¬ ((x.toNat : Int) = 59∧semi = none))=>cutAt_go HC.out Hx.out hq (fun k=>h (h35.1 k)) (fun k=>hs ⟨h59.1 k.1,k.2⟩))
    generalize (x.toNat : Int) = z at hix hgi HH HS HGo
    clear h35 h59 hq
    rcases (by omega : z = 35∨z = 59∨(z ≠ 35∧z ≠ 59)) with hz | hz | ⟨hz,hz'⟩
    ·have HE:=HH.out hz
     rw [HIS.out] at HE
     injection HE with HE1 HE2
     have HE1:=Lib.hid HE1
     have HE2:=Lib.hid HE2
     have hzz : (z == 35) = true:=by rw [hz];rfl
     clear hz HH HS HGo
     go_wp2_with (go_at_call 278;refine HQ.out.mono ?_;rintro e w2 ⟨rfl,hb2⟩)
     go_ret2
     have h1:=ext_bytes0 L i
     rw [← HE1.out] at h1
     exact ⟨ret_pair (congrArg Value.string (by first | exact h1 | (rw [HE1.out] at h1 ⊢;exact h1) | rfl)) (congrArg (Value.int .i64) (by rw [HE2.out])),below_step hb hb2 hb.size⟩
    ·have hzz : (z == 35) = false:=by rw [hz];rfl
     have hzy : (z == 59) = true:=by rw [hz];rfl
     cases semi with
     | none =>
      have HC':=Lib.hid (HS.out hz rfl)
      have hfn : decide (fv none < 0) = true:=rfl
      clear hz HH HS HGo
      go_wp2_with (go_at_call 278;refine HQ.out.mono ?_;rintro e w2 ⟨rfl,hb2⟩)
      go_roundw
      case rel=>exact ⟨some i,i+1,rfl,by go_num,by omega,HC',below_step hb hb2 hb.size⟩
      case measure=>simp [intOf];omega
     | some k =>
      have HC':=Lib.hid (HGo.out (by omega) (fun h=>by cases h.2))
      have hfn : decide (fv (some k) < 0) = false:=decide_eq_false (by simp only [fv];omega)
      clear hz HH HS HGo
      go_wp2_with (go_at_call 278;refine HQ.out.mono ?_;rintro e w2 ⟨rfl,hb2⟩)
      go_roundw
      case rel=>exact ⟨some k,i+1,rfl,by go_num,by omega,HC',below_step hb hb2 hb.size⟩
      case measure=>simp [intOf];omega
    ·have hzz : (z == 35) = false:=beq_eq_false_iff_ne.2 hz
     have hzy : (z == 59) = false:=beq_eq_false_iff_ne.2 hz'
     have HC':=Lib.hid (HGo.out hz (fun h=>hz' h.1))
     clear hz hz' HH HS HGo
     go_wp2_with (go_at_call 278;refine HQ.out.mono ?_;rintro e w2 ⟨rfl,hb2⟩)
     go_roundw
     case rel=>exact ⟨semi,i+1,rfl,by go_num,by omega,HC',below_step hb hb2 hb.size⟩
     case measure=>simp [intOf];omega
  ·have HE:=cutAt_end HC.out hlt
   rw [HIS.out] at HE
   injection HE with HE1 HE2
   have HE1:=Lib.hid HE1
   have HE2:=Lib.hid HE2
   go_wp2
   go_ret2
   exact ⟨ret_pair (congrArg Value.string (by rw [HE1.out,List.take_length];try rfl)) (by rw [HE2.out];try rfl),hb⟩
end
section
open Go.RowKit Go.Maps
def hitR (x y : Int × Int) : Bool:=decide (x.1≤y.2) && decide (y.1≤x.2)
theorem meetB_any (a b : List (Int × Int)) : meetB a b = a.any fun x=>b.any fun y=>hitR x y:=rfl
theorem any_next {α : Type} {l : List α} {i : Nat} {x : α} {f : α→Bool} (h : (l.take i).any f = false) (hx : l[i]? = some x) (hf : f x = false) : (l.take (i+1)).any f = false:=by
 rw [List.take_add_one,hx];simp [List.any_append,h,hf]
theorem any_hit {α : Type} {l : List α} {i : Nat} {x : α} {f : α→Bool} (hx : l[i]? = some x) (hf : f x = true) : l.any f = true:=List.any_eq_true.2 ⟨x,List.mem_of_getElem? hx,hf⟩
theorem any_all {α : Type} {l : List α} {i : Nat} {f : α→Bool} (h : (l.take i).any f = false) (hi : ¬ i < l.length) : l.any f = false:=by rwa [List.take_of_length_le (by omega)] at h
theorem vmeet_any (A B : Option Addr) (n c m e : Nat) (l q : List (Int × Int)) (w : World) (hA : Rd w 2 A (l.map encR)) (hB : Rd w 2 B (q.map encR)) (hl : l.length = n) (hq : q.length = m) (hn : n≤4000000) (hm : m≤4000000) :
  Calls Tryz.prog 235 #[.slice A n c,.slice B m e] w fun e w'=>e = .returned (.bool (meetB l q))∧∃ k,w' = w.drewN k:=by
 have Hl:=Lib.hid hl
 have Hq:=Lib.hid hq
 have HMB:=Lib.hid (meetB_any l q)
 go_enter Tryz.func235,Tryz.ntmps235
 go_wp2
 go_loopw [5] (fun v wr=>∃ i k : Nat,v = .int .i64 i∧i≤n∧Hid ((l.take i).any (fun x=>q.any fun y=>hitR x y) = false)∧wr = w.drewN k) (fun v _=>n - (intOf v).toNat)
 case atStart=>exact ⟨0,0,rfl,by omega,by simp [Hid],rfl⟩
 case round =>
  obtain ⟨i,k,rfl,hi,HI,rfl⟩:=hrel
  by_cases hlt : i < n
  ·obtain ⟨bA,oA,x1,x2,rfl,Hx,hx1,hx2⟩:=hA.atR (k:=i) (by have:=Hl.out;omega)
   have hdi : decide (i < n) = true:=decide_eq_true hlt
   go_wp2_with fail
   go_loopw [6] (fun v wr=>∃ j k2 : Nat,v = .int .i64 j∧j≤m∧Hid ((q.take j).any (fun y=>hitR (x1,x2) y) = false)∧wr = w.drewN k2) (fun v _=>m - (intOf v).toNat)
   case atStart=>exact ⟨0,k,rfl,by omega,by simp [Hid],rfl⟩
   case round =>
    obtain ⟨j,k2,rfl,hj,HJ,rfl⟩:=hrel
    by_cases hltj : j < m
    ·obtain ⟨bB,oB,y1,y2,rfl,Hy,hy1,hy2⟩:=hB.atR (k:=j) (by have:=Hq.out;omega)
     rcases (by omega : ¬ x1≤y2∨(x1≤y2∧¬ y1≤x2)∨(x1≤y2∧y1≤x2)) with h1 | ⟨h1,h2⟩ | ⟨h1,h2⟩
     ·have HJ':=Lib.hid (any_next HJ.out Hy.out (show hitR (x1,x2) (y1,y2) = false by simp [hitR,h1]))
      have hd1 : decide (x1≤y2) = false:=decide_eq_false h1
      go_wp2_with fail
      go_quiet (fail)
      go_wp2
      go_roundw
      case rel=>exact ⟨j+1,_,by go_num,by omega,HJ',by first | rfl | exact World.drewN_drewN _ _ _⟩
      case measure=>simp [intOf];omega
     ·have HJ':=Lib.hid (any_next HJ.out Hy.out (show hitR (x1,x2) (y1,y2) = false by simp [hitR,h2]))
      have hd1 : decide (x1≤y2) = true:=decide_eq_true h1
      have hd2 : decide (y1≤x2) = false:=decide_eq_false h2
      go_wp2_with fail
      go_quiet (fail)
      go_wp2
      go_roundw
      case rel=>exact ⟨j+1,_,by go_num,by omega,HJ',by first | rfl | exact World.drewN_drewN _ _ _⟩
      case measure=>simp [intOf];omega
     ·have HE : Hid (meetB l q = true):=Lib.hid (by rw [HMB.out];exact any_hit Hx.out (any_hit Hy.out (show hitR (x1,x2) (y1,y2) = true by simp [hitR,h1,h2])))
      have hd1 : decide (x1≤y2) = true:=decide_eq_true h1
      have hd2 : decide (y1≤x2) = true:=decide_eq_true h2
      go_wp2_with fail
      go_quiet (fail)
      go_wp2
      go_ret
      exact ⟨by rw [HE.out];rfl,_,by first | rfl | exact World.drewN_drewN _ _ _⟩
    ·have HI':=Lib.hid (any_next HI.out Hx.out (any_all HJ.out (show ¬ j < q.length by have:=Hq.out;omega)))
     go_wp2
     go_roundw
     case rel=>exact ⟨i+1,k2,by go_num,by omega,HI',rfl⟩
     case measure=>simp [intOf];omega
  ·have HE : Hid (meetB l q = false):=Lib.hid (by rw [HMB.out];exact any_all HI.out (show ¬ i < l.length by have:=Hl.out;omega))
   go_wp2
   go_ret
   exact ⟨by rw [HE.out];rfl,k,rfl⟩
end
section
open Go.RowKit Go.Maps
structure Byt (w : World) (b : Nat) (L : List UInt8) : Prop where
 cell : ∀ j (h : j < L.length),w.cell? ⟨b,j,none⟩ = some (.int .u8 ((L[j]'h).toNat : Int))
 free : ∀ j,j < L.length→w.frozen? ⟨b,j,none⟩ = false
theorem Byt.set_ {w : World} {b : Nat} {L : List UInt8} (h : Byt w b L) {i : Nat} (hi : i < L.length) (c : UInt8) (v : Int) (hv : v = (c.toNat : Int)) : Byt (w.setCell ⟨b,i,none⟩ (.int .u8 v)) b (L.set i c):=by
 subst hv
 refine ⟨fun j hj=>?_,fun j hj=>?_⟩
 ·rw [List.length_set] at hj
  by_cases e : i = j
  ·subst e
   rw [World.cell?_setCell_same _ _ _ (h.cell i hi)];simp
  ·rw [World.cell?_setCell_other _ _ _ _ (fun k=>e (by injection k)),h.cell j hj];simp [List.getElem_set_ne e]
 ·rw [List.length_set] at hj
  rw [World.frozen?_setCell];exact h.free j hj
theorem byt_world (w : World) (l : List UInt8) : Byt (Lib.bytesWorld w 5 (bytesOf l)) w.heap.size l:=by
 refine ⟨fun j hj=>?_,fun j hj=>?_⟩
 ·have h1:=Lib.bytesWorld_cell w 5 (bytesOf l) j (by rw [bytesOf_size];exact hj)
  rw [bytesOf_list,List.getD_eq_getElem?_getD,List.getElem?_eq_getElem hj] at h1
  exact h1
 ·unfold World.frozen?
  rw [Lib.bytesWorld_at_new]
  have hc : l.length≤(Lib.bytesCells w 5 (bytesOf l)).size:=by
   simp [Lib.bytesCells]
   rw [bytesOf_size];omega
  simp;omega
theorem vspaced_any (l : List UInt8) (w : World) (hs : l.length≤1000000) : Calls Tryz.prog 233 #[.string (bytesOf l)] w fun e w'=>e = .returned (.string (bytesOf (spcL l)))∧Below w.heap.size w w':=by
 have hcv:=fun W=>Lib.run_convert_string_bytes (P:=Tryz.prog) W 9 164 5 (bytesOf l) Tryz.underlying9 Tryz.underlying164 Tryz.underlying5
 have hsz : (bytesOf l).size = l.length:=bytesOf_size l
 have Hlen : Hid ((spcL l).length = l.length):=Lib.hid (by unfold spcL;rw [List.length_map])
 go_enter Tryz.func233,Tryz.ntmps233
 go_wp2
 have hby:=byt_world w l
 have hbw:=below_bytesWorld w 5 (bytesOf l)
 generalize Lib.bytesWorld w 5 (bytesOf l) = w1 at hby hbw ⊢
 clear hcv
 go_loopw [4] (fun v wr=>∃ i : Nat,v = .int .i64 i∧i≤l.length∧Byt wr w.heap.size ((spcL l).take i++l.drop i)∧Below w.heap.size w wr) (fun v _=>l.length - (intOf v).toNat)
 case atStart=>exact ⟨0,rfl,by omega,by simpa using hby,hbw⟩
 case round =>
  clear hby hbw
  obtain ⟨i,rfl,hi,hB,hb⟩:=hrel
  have hll : ((spcL l).take i++l.drop i).length = l.length:=by rw [List.length_append,List.length_take,List.length_drop,Hlen.out];omega
  by_cases hlt : i < l.length
  ·obtain ⟨x,Hx⟩ : ∃ x,Hid (l[i]? = some x):=⟨_,Lib.hid (List.getElem?_eq_getElem hlt)⟩
   have hgx : ((spcL l).take i++l.drop i)[i]'(by omega) = x:=by
    have h1 : ((spcL l).take i++l.drop i)[i]? = some x:=by
     rw [List.getElem?_append_right (by rw [List.length_take,Hlen.out];omega),List.length_take,Hlen.out,Nat.min_eq_left (by omega),Nat.sub_self,List.getElem?_drop];exact Hx.out
    obtain ⟨_,h2⟩:=List.getElem?_eq_some_iff.1 h1
    exact h2
   have hc:=hB.cell i (by omega)
   rw [hgx] at hc
   have hf:=hB.free i (by omega)
   have hnext : ∀ y,y = (if x = 9 then 32 else x)→((spcL l).take i++l.drop i).set i y = (spcL l).take (i+1)++l.drop (i+1):=fun y hy=>by
    have h1 : (spcL l)[i]? = some y:=by unfold spcL;rw [List.getElem?_map,Hx.out,hy];rfl
    rw [drop_at Hx.out,List.take_add_one,h1]
    have h2 : ((spcL l).take i).length = i:=by rw [List.length_take,Hlen.out];omega
    have h3:=set_mid ((spcL l).take i) x y (l.drop (i+1))
    rw [h2] at h3
    rw [h3];simp
   by_cases hx9 : x = 9
   ·have hz : ((x.toNat : Int) == 9) = true:=by rw [hx9];rfl
    have HN:=Lib.hid (hnext 32 (by rw [if_pos hx9]))
    have HB:=Lib.hid (hB.set_ (i:=i) (by omega) 32 32 rfl)
    rw [HN.out] at HB
    clear hnext hx9 hgx
    go_wp2
    go_roundw
    case rel=>exact ⟨i+1,by go_num,by omega,HB.out,hb.setCell (p:=⟨w.heap.size,i,none⟩) (Nat.le_refl _) _⟩
    case measure=>simp [intOf];omega
   ·have hz : ((x.toNat : Int) == 9) = false:=beq_eq_false_iff_ne.2 (fun e=>hx9 ((u8_eq (n:=9) (by omega)).2 (by omega)))
    have HN:=Lib.hid (hnext x (by rw [if_neg hx9]))
    have hsame : ((spcL l).take i++l.drop i).set i x = (spcL l).take i++l.drop i:=by
     conv=>lhs;rw [← hgx]
     exact List.set_getElem_self _
    rw [hsame] at HN
    clear hnext hx9 hgx hsame
    go_wp2
    go_roundw
    case rel=>exact ⟨i+1,by go_num,by omega,by rw [← HN.out];exact hB,hb⟩
    case measure=>simp [intOf];omega
  ·have HE : Hid ((spcL l).take i++l.drop i = spcL l):=Lib.hid (by rw [List.take_of_length_le (by rw [Hlen.out];omega),List.drop_of_length_le (by omega),List.append_nil])
   rw [HE.out] at hB
   have hcb:=fun c=>run_convert_bytes_back (P:=Tryz.prog) wr 164 9 5 ⟨w.heap.size,0,none⟩ c (spcL l) Tryz.underlying164 Tryz.underlying5 Tryz.underlying9 (fun k hk=>by
    have e : (⟨w.heap.size,0,none⟩ : Addr).add k = ⟨w.heap.size,k,none⟩:=by
     unfold Addr.add
     split
     ·rename_i h0;rw [h0]
     ·simp
    rw [e];exact hB.cell k hk)
   rw [Hlen.out] at hcb
   go_wp2
   go_ret
   exact ⟨rfl,hb⟩
theorem take_sub {l : List UInt8} {a b : Nat} : (bytesOf l).extract a b = bytesOf ((l.drop a).take (b - a)):=ext_bytes2 l a b
theorem vLines_any (t : List UInt8) (w : World) (ht : t.length≤1000000) :
  Calls Tryz.prog 178 #[.string (bytesOf t)] w fun e w'=>∃ A n c,e = .returned (.slice A n c)∧Own w' w.heap.size 9 1 A n c ((splitL t).map encNm)∧Below w.heap.size w w':=by
 obtain ⟨i0,hi0,hz0,hz1,hz2⟩:=info_parts info_cloneS
 have hsz : (bytesOf t).size = t.length:=bytesOf_size t
 go_enter Tryz.func178,Tryz.ntmps178
 go_wp2
 go_loopw [3,4,5] (fun a f v wr=>∃ (i frm : Nat) (done : List (List UInt8)) (A : Option Addr) (n c : Nat),a = .slice A n c∧f = .int .i64 frm∧v = .int .i64 i∧i≤t.length∧n≤i∧frm≤i∧Hid (LinesAt t i frm done)∧Own wr w.heap.size 9 1 A n c (done.map encNm)∧Below w.heap.size w wr) (fun _ _ v _=>t.length - (intOf v).toNat)
 case atStart=>exact ⟨0,0,[],none,0,0,rfl,rfl,rfl,by omega,by omega,by omega,LinesAt.start t,Own.nil_ _ _ _ _,Below.refl _ _⟩
 case round =>
  obtain ⟨i,frm,done,A,n,c,rfl,rfl,rfl,hi,hni,hfi,HL,ho,hb⟩:=hrel
  have hszr:=hb.size
  by_cases hlt : i < t.length
  ·have hp : i < (bytesOf t).size:=by omega
   have hix:=index_at (bytesOf t) i i rfl hp
   obtain ⟨x,hx⟩ : ∃ x,(bytesOf t)[i]'hp = x:=⟨_,rfl⟩
   have Hx : Hid (t[i]? = some x):=Lib.hid (by have:=get_list hp;rw [bytesOf_list,hx] at this;exact this)
   have hgi : (((bytesOf t)[i]'hp).toNat : Int) = (x.toNat : Int):=by rw [hx]
   rw [hx] at hix
   clear hx
   by_cases hx10 : x = 10
   ·have hz : ((x.toNat : Int) == 10) = true:=by rw [hx10];rfl
    have HL':=Lib.hid (LinesAt.line HL.out (by rw [Hx.out,hx10]))
    have HX:=Lib.hid (take_sub (l:=t) (a:=frm) (b:=i))
    clear hx10
    go_wp2_with (at_builtin;go_must (refine wpList_app rfl (.tmp 16) (.tmp 21) _ rfl w.heap.size 9 i0 _ 1 16 Tryz.underlying122 hi0 hz0 hz1 hz2 rfl (by omega) A n c (done.map encNm) rfl (ho.alloc _) _ 1 1 [encNm ((t.drop frm).take (i - frm))] rfl rfl (Rd.newAt (by simp) (by simp [encNm,HX.out])) (encNm_ok [(t.drop frm).take (i - frm)]) (by unfold maxLen;omega) (by omega) (by simp;omega) ?_);intro A3 c3 w3 ho3 hg3 hA3;have hb3:=below_app (hb.alloc (by omega) _) hg3 (by simp;omega) (fun a ha=>(ho.lt a ha).1);clear hg3)
    have Ho3 : Own w3 w.heap.size 9 1 A3 (n+1) c3 ((done++[(t.drop frm).take (i - frm)]).map encNm):=by rw [List.map_append];exact ho3
    clear ho3
    go_roundw
    case rel=>exact ⟨i+1,i+1,_,A3,n+1,c3,rfl,by go_num,by go_num,by omega,by omega,by omega,HL',Ho3,hb3⟩
    case measure=>simp [intOf];omega
   ·have hz : ((x.toNat : Int) == 10) = false:=beq_eq_false_iff_ne.2 (fun e=>hx10 ((u8_eq (n:=10) (by omega)).2 (by omega)))
    have HL':=Lib.hid (LinesAt.byte HL.out Hx.out hx10)
    clear hx10
    go_wp2
    go_roundw
    case rel=>exact ⟨i+1,frm,done,A,n,c,rfl,rfl,by go_num,by omega,by omega,by omega,HL',ho,hb⟩
    case measure=>simp [intOf];omega
  ·obtain rfl : i = t.length:=by omega
   have HE:=Lib.hid (LinesAt.done HL.out)
   have HX:=Lib.hid (ext_bytes t frm)
   rw [hsz] at HX
   go_wp2_with (at_builtin;go_must (refine wpList_app rfl (.tmp 25) (.tmp 29) _ rfl w.heap.size 9 i0 _ 1 16 Tryz.underlying122 hi0 hz0 hz1 hz2 rfl (by omega) A n c (done.map encNm) rfl (ho.alloc _) _ 1 1 [encNm (t.drop frm)] rfl rfl (Rd.newAt (by simp) (by simp [encNm,HX.out])) (encNm_ok [t.drop frm]) (by unfold maxLen;omega) (by omega) (by simp;omega) ?_);intro A3 c3 w3 ho3 hg3 hA3;have hb3:=below_app (hb.alloc (by omega) _) hg3 (by simp;omega) (fun a ha=>(ho.lt a ha).1);clear hg3)
   go_ret
   exact ⟨A3,n+1,c3,rfl,by rw [HE.out,List.map_append];exact ho3,hb3⟩
end
section
open Go.RowKit
def nmOk (l : List UInt8) : Bool:=l.all pPart && (l.head?.map pLetter).getD false && decide (l.length≤32)
def nmsOk (ns : List (List UInt8)) : Bool:=decide (ns.length≤64) && ns.all nmOk && decide ns.Nodup
theorem nm_part {l : List UInt8} (h : nmOk l = true) {b : UInt8} (hb : b ∈ l) : pPart b = true:=by
 unfold nmOk at h
 simp only [Bool.and_eq_true,List.all_eq_true] at h
 exact h.1.1 b hb
theorem nm_letter {b : UInt8} {r : List UInt8} (h : nmOk (b :: r) = true) : pLetter b = true:=by
 unfold nmOk at h
 simp only [Bool.and_eq_true,List.head?_cons,Option.map_some,Option.getD_some] at h
 exact h.1.2
theorem nm_len {l : List UInt8} (h : nmOk l = true) : 1≤l.length∧l.length≤32:=by
 unfold nmOk at h
 simp only [Bool.and_eq_true,decide_eq_true_iff] at h
 refine ⟨?_,h.2⟩
 cases l with
 | nil=>simp at h
 | cons b r=>simp
theorem jName_ok (s : ByteArray) (w : World) (h : nmOk s.data.toList = true) : Calls Tryz.prog 196 #[.string s] w fun e w'=>e = .returned (.bool true)∧w = w':=by
 have HP:=Lib.hid (fun b hb=>nm_part h (b:=b) hb)
 have HL:=Lib.hid (fun b r (e : s.data.toList = b :: r)=>nm_letter (b:=b) (r:=r) (e ▸ h))
 have hl:=nm_len h
 rw [size_data] at hl
 clear h
 go_enter Tryz.func196,Tryz.ntmps196
 go_wp2
 go_loopw [3] (fun v wr=>∃ i : Nat,v = .int .i64 i∧i≤s.size∧wr = w) (fun v _=>s.size - (intOf v).toNat)
 case atStart=>exact ⟨0,rfl,by omega,rfl⟩
 case round =>
  obtain ⟨i,rfl,hi,rfl⟩:=hrel
  by_cases hlt : i < s.size
  ·obtain ⟨b,hd,hidx⟩:=byte_at s hlt
   have hpb:=HP.out b (List.mem_of_mem_drop (by rw [hd];simp))
   have h1:=jpart_b b wr
   rw [hpb] at h1
   have HJ:=Lib.hid h1
   clear h1 hpb
   by_cases h0 : i = 0
   ·subst h0
    have h2:=jletter_b b wr
    rw [HL.out b _ (by simpa using hd)] at h2
    have HK:=Lib.hid h2
    have hidx0 : ∀ W,(Instr.index 9 (.string s) (.int .i64 0)).run Tryz.prog W = .ok (.int .u8 (b.toNat : Int)) W:=hidx
    clear h2 hd hidx
    go_wp2_with fail
    refine HJ.out.mono ?_
    rintro e w2 ⟨rfl,rfl⟩
    go_wp2_with fail
    refine HK.out.mono ?_
    rintro e w2 ⟨rfl,rfl⟩
    go_wp2
    go_roundw
    case rel=>exact ⟨1,by go_num,by omega,by first | rfl | trivial⟩
    case measure=>simp [intOf];omega
   ·have t0 : ((i : Int) == 0) = false:=by rw [beq_eq_false_iff_ne];omega
    clear hd
    go_wp2_with fail
    refine HJ.out.mono ?_
    rintro e w2 ⟨rfl,rfl⟩
    go_wp2
    go_roundw
    case rel=>exact ⟨i+1,by go_num,by omega,by first | rfl | trivial⟩
    case measure=>simp [intOf];omega
  ·obtain rfl : i = s.size:=by omega
   have t1 : decide (1≤s.size) = true:=decide_eq_true hl.1
   have t2 : decide ((s.size : Int)≤32) = true:=decide_eq_true (by omega)
   go_wp2
   go_ret
   exact ⟨by first | rfl | exact congrArg (fun b=>Ending.returned (.bool b)) t2,rfl⟩
theorem jNames_ok (A : Option Addr) (n c : Nat) (ns : List (List UInt8)) (w : World) (hA : Rd w 1 A (ns.map encNm)) (hl : ns.length = n) (h : nmsOk ns = true) : Calls Tryz.prog 152 #[.slice A n c] w fun e w'=>e = .returned (.bool true)∧∃ q,w' = w.drewN q:=by
 unfold nmsOk at h
 simp only [Bool.and_eq_true,decide_eq_true_iff,List.all_eq_true] at h
 obtain ⟨⟨h64,hnm⟩,hnd⟩:=h
 have HN:=Lib.hid (fun y (hy : y ∈ ns) W=>jName_ok (bytesOf y) W (by rw [bytesOf_list];exact hnm y hy))
 have HD:=Lib.hid (fun i k x y (hi : ns[i]? = some x) (hk : ns[k]? = some y) (hlt : k < i)=>(fun e=>by
  obtain ⟨h1,h2⟩:=List.getElem?_eq_some_iff.1 hi
  obtain ⟨h3,h4⟩:=List.getElem?_eq_some_iff.1 hk
  have:=(List.nodup_iff_pairwise_ne.1 hnd)
  rw [List.pairwise_iff_getElem] at this
  exact this k i h3 h1 hlt (by rw [h4,h2,e]) : y ≠ x))
 rw [hl] at h64
 clear hnm hnd
 have Hl:=Lib.hid hl
 have h65 : ¬ 64 < n:=by omega
 clear hl h64
 go_enter Tryz.func152,Tryz.ntmps152
 go_wp2
 go_loopw [3,4] (fun v _ wr=>∃ i q : Nat,v = .int .i64 i∧i≤n∧wr = w.drewN q) (fun v _ _=>n - (intOf v).toNat)
 case atStart=>exact ⟨0,0,rfl,by omega,rfl⟩
 case round =>
  obtain ⟨i,q,rfl,hi,rfl⟩:=hrel
  have hA1:=hA
  by_cases hlt : i < n
  ·obtain ⟨x,Hx⟩ : ∃ x,Hid (ns[i]? = some x):=⟨_,Lib.hid (List.getElem?_eq_getElem (by have:=Hl.out;omega))⟩
   obtain ⟨b,off,rfl,hc⟩:=hA1.atS Hx.out
   have HJ:=Lib.hid (HN.out x (List.mem_of_getElem? Hx.out) (w.drewN q))
   go_wp2_with fail
   refine HJ.out.mono ?_
   rintro e w2 ⟨rfl,rfl⟩
   go_wp2_with fail
   go_loopw [4] (fun v wq=>∃ k q : Nat,v = .int .i64 k∧k≤i∧wq = w.drewN q) (fun v _=>i - (intOf v).toNat)
   case atStart=>exact ⟨0,q,rfl,by omega,rfl⟩
   case round =>
    clear hc hA1
    obtain ⟨k,q2,rfl,hk,rfl⟩:=hrel
    have hA2:=hA
    obtain ⟨b3,off3,e3,hc⟩:=hA2.atS Hx.out
    injection e3 with e3
    injection e3 with e4 e5 _
    subst e4 e5
    by_cases hki : k < i
    ·obtain ⟨y,Hy⟩ : ∃ y,Hid (ns[k]? = some y):=⟨_,Lib.hid (List.getElem?_eq_getElem (by have:=Hl.out;omega))⟩
     obtain ⟨b2,off2,e2,hc2⟩:=hA2.atS Hy.out
     injection e2 with e2
     injection e2 with e3 e4 _
     subst e3 e4
     have hyx : y ≠ x:=HD.out i k x y Hx.out Hy.out hki
     have q1 : ((bytesOf y).toList == (bytesOf x).toList) = false:=by rw [ByteArray.toList_eq,ByteArray.toList_eq,bytesOf_list,bytesOf_list];exact beq_eq_false_iff_ne.2 hyx
     have q2 : decide (bytesOf y = bytesOf x) = false:=decide_eq_false (fun k=>hyx (by have:=congrArg (fun b=>b.data.toList) k;simpa [bytesOf_list] using this))
     have hkn : k < n:=by omega
     clear hyx
     go_wp2_with fail
     go_quiet (fail)
     go_wp2
     go_roundw
     case rel=>exact ⟨k+1,_,by go_num,by omega,by first | rfl | exact World.drewN_drewN _ _ _⟩
     case measure=>simp [intOf];omega
    ·obtain rfl : k = i:=by omega
     go_wp2
     go_roundw
     case rel=>exact ⟨k+1,_,by go_num,by omega,by first | rfl | exact World.drewN_drewN _ _ _⟩
     case measure=>simp [intOf];omega
  ·obtain rfl : i = n:=by omega
   go_wp2
   go_ret
   exact ⟨rfl,q,rfl⟩
end
section
open Go.RowKit Go.Maps
theorem oblank_any (c : UInt8) (w : World) : Calls Tryz.prog 246 #[.int .u8 (c.toNat : Int)] w fun e w'=>e = .returned (.bool (blkB c))∧w = w':=by
 have HT:=Lib.hid (@blk_true c)
 have HF:=Lib.hid (@blk_false c)
 generalize (c.toNat : Int) = z at HT HF
 rcases (by omega : z = 32∨z = 9∨(z ≠ 32∧z ≠ 9)) with h | h | ⟨h,h'⟩
 ·have HV:=Lib.hid (HT.out (.inl h))
  subst h
  go_enter Tryz.func246,Tryz.ntmps246
  go_wp2
  go_ret
  exact ⟨by rw [HV.out];rfl,rfl⟩
 ·have HV:=Lib.hid (HT.out (.inr h))
  subst h
  go_enter Tryz.func246,Tryz.ntmps246
  go_wp2
  go_ret
  exact ⟨by rw [HV.out];rfl,rfl⟩
 ·have HV:=Lib.hid (HF.out (by omega))
  have h1 : (z == 32) = false:=beq_eq_false_iff_ne.2 h
  have h2 : (z == 9) = false:=beq_eq_false_iff_ne.2 h'
  go_enter Tryz.func246,Tryz.ntmps246
  go_wp2
  go_ret
  exact ⟨by rw [HV.out];rfl,rfl⟩
theorem otrim_any (L : List UInt8) (w : World) (hL : L.length≤1000000) : Calls Tryz.prog 199 #[.string (bytesOf L)] w fun e w'=>e = .returned (.string (bytesOf (trimL L)))∧w = w':=by
 have HTE:=Lib.hid (trimL_eq L)
 go_enter Tryz.func199,Tryz.ntmps199
 go_wp2
 go_loopw [0] (fun v wr=>∃ l : List UInt8,v = .string (bytesOf l)∧l.length≤L.length∧Hid (l.dropWhile blkB = L.dropWhile blkB)∧wr = w) (fun v _=>strSize v)
 case atStart=>exact ⟨L,rfl,by omega,rfl,rfl⟩
 case round =>
  obtain ⟨l,rfl,hl,HD,rfl⟩:=hrel
  have hsz : (bytesOf l).size = l.length:=bytesOf_size l
  by_cases hb : ∃ c r,l = c :: r∧blkB c = true
  ·obtain ⟨c,r,rfl,hc⟩:=hb
   have h0 : 0 < (bytesOf (c :: r)).size:=by rw [hsz];simp
   have hix:=index_at (bytesOf (c :: r)) 0 0 rfl h0
   have hg : (bytesOf (c :: r))[0]'h0 = c:=by have:=get_list h0;rw [bytesOf_list] at this;simpa using this.symm
   rw [hg] at hix
   have hgi : (((bytesOf (c :: r))[0]'h0).toNat : Int) = (c.toNat : Int):=by rw [hg]
   have HX:=Lib.hid (ext_bytes (c :: r) 1)
   rw [hsz] at HX
   have hl2 : (r.length : Int)+1≤1000000:=by simp at hl;omega
   clear hg
   go_wp2_with (go_at_call 246;refine (oblank_any c _).mono ?_;rw [hc];rintro e w' ⟨rfl,rfl⟩)
   go_roundw
   case rel=>exact ⟨r,by first | exact congrArg Value.string HX.out | (rw [← ext_bytes (c :: r) 1];rfl),by simp at hl;omega,Lib.hid (by rw [← HD.out,drop_blank hc]),by first | rfl | trivial⟩
   case measure=>simp only [strSize,ByteArray.size_extract,bytesOf_size,List.length_cons];omega
  ·have HLD : Hid (l = L.dropWhile blkB):=Lib.hid (by
    rw [← HD.out]
    cases l with
    | nil=>rfl
    | cons c r =>
     have : blkB c = false:=by
      cases hq : blkB c with
      | false=>rfl
      | true=>exact absurd ⟨c,r,rfl,hq⟩ hb
     exact (dropWhile_stop this).symm)
   have HTR : Hid (trimL L = trimR l):=Lib.hid (by rw [HTE.out,HLD.out])
   have hstop : l = []∨∃ c r,l = c :: r∧blkB c = false:=by
    cases l with
    | nil=>exact .inl rfl
    | cons c r =>
     refine .inr ⟨c,r,rfl,?_⟩
     cases hq : blkB c with
     | false=>rfl
     | true=>exact absurd ⟨c,r,rfl,hq⟩ hb
   clear hb HD HLD
   rcases hstop with rfl | ⟨c,r,rfl,hc⟩
   ·have HT0 : Hid (trimL L = []):=Lib.hid (by rw [HTR.out];rfl)
    have hz0 : (bytesOf []).size = 0:=rfl
    go_wp2_with fail
    go_loopw [0] (fun v wq=>v = .string (bytesOf [])∧wq = wr) (fun _ _=>0)
    case atStart=>exact ⟨rfl,rfl⟩
    case round =>
     obtain ⟨rfl,rfl⟩:=hrel
     go_wp2
     go_ret
     exact ⟨by rw [HT0.out];rfl,rfl⟩
   ·have h0 : 0 < (bytesOf (c :: r)).size:=by rw [hsz];simp
    have hix:=index_at (bytesOf (c :: r)) 0 0 rfl h0
    have hg : (bytesOf (c :: r))[0]'h0 = c:=by have:=get_list h0;rw [bytesOf_list] at this;simpa using this.symm
    rw [hg] at hix
    have hgi : (((bytesOf (c :: r))[0]'h0).toNat : Int) = (c.toNat : Int):=by rw [hg]
    clear hg
    go_wp2_with (go_at_call 246;refine (oblank_any c _).mono ?_;rw [hc];rintro e w' ⟨rfl,rfl⟩)
    go_loopw [0] (fun v wq=>∃ l : List UInt8,v = .string (bytesOf l)∧l.length≤L.length∧Hid (trimR l = trimL L)∧wq = wr) (fun v _=>strSize v)
    case atStart=>exact ⟨c :: r,rfl,hl,Lib.hid HTR.out.symm,rfl⟩
    case round =>
     clear hix hgi h0
     obtain ⟨l,rfl,hl2,HD,rfl⟩:=hrel
     have hsz2 : (bytesOf l).size = l.length:=bytesOf_size l
     rcases List.eq_nil_or_concat l with rfl | ⟨o,y,rfl⟩
     ·have HT0 : Hid (trimL L = []):=Lib.hid (by rw [← HD.out];rfl)
      have hz0 : (bytesOf []).size = 0:=rfl
      go_wp2
      go_ret
      exact ⟨by rw [HT0.out];rfl,rfl⟩
     ·rw [List.concat_eq_append] at *
      have hlast : (o++[y]).getLast? = some y:=by simp
      have hol : (o++[y]).length = o.length+1:=by simp
      rw [hol] at hsz2 hl2
      have hp : o.length < (bytesOf (o++[y])).size:=by omega
      have hix:=index_at (bytesOf (o++[y])) ((o.length : Int)+1 - 1) o.length (by omega) hp
      have hix2:=index_at (bytesOf (o++[y])) (o.length : Int) o.length rfl hp
      have hg : (bytesOf (o++[y]))[o.length]'hp = y:=by have:=get_list hp;rw [bytesOf_list] at this;simpa using this.symm
      rw [hg] at hix hix2
      have hgi : (((bytesOf (o++[y]))[o.length]'hp).toNat : Int) = (y.toNat : Int):=by rw [hg]
      clear hg
      cases hy : blkB y with
      | true =>
       have HX : Hid ((bytesOf (o++[y])).extract 0 o.length = bytesOf o):=Lib.hid (by rw [ext_bytes0];simp)
       have HD' : Hid (trimR o = trimL L):=Lib.hid (by rw [← HD.out,(trim_last hlast).1 hy,hol,Nat.add_sub_cancel];simp)
       go_wp2_with (go_at_call 246;refine (oblank_any y _).mono ?_;rw [hy];rintro e w' ⟨rfl,rfl⟩)
       go_roundw
       case rel=>exact ⟨o,congrArg Value.string HX.out,by omega,HD',by first | rfl | trivial⟩
       case measure=>simp only [strSize,ByteArray.size_extract,bytesOf_size,List.length_append,List.length_singleton];omega
      | false =>
       have HD' : Hid (trimL L = o++[y]):=Lib.hid (by rw [← HD.out,(trim_last hlast).2 hy])
       go_wp2_with (go_at_call 246;refine (oblank_any y _).mono ?_;rw [hy];rintro e w' ⟨rfl,rfl⟩)
       go_ret
       exact ⟨by rw [HD'.out];rfl,rfl⟩
theorem oLines_any (t : List UInt8) (w : World) (ht : t.length≤1000000) :
  Calls Tryz.prog 153 #[.string (bytesOf t)] w fun e w'=>∃ A n c,e = .returned (.slice A n c)∧Own w' w.heap.size 9 1 A n c ((splitL t).map encNm)∧Below w.heap.size w w':=by
 obtain ⟨i0,hi0,hz0,hz1,hz2⟩:=info_parts info_cloneS
 have hsz : (bytesOf t).size = t.length:=bytesOf_size t
 go_enter Tryz.func153,Tryz.ntmps153
 go_wp2
 go_loopw [3,4,5] (fun a f v wr=>∃ (i frm : Nat) (done : List (List UInt8)) (A : Option Addr) (n c : Nat),a = .slice A n c∧f = .int .i64 frm∧v = .int .i64 i∧i≤t.length∧n≤i∧frm≤i∧Hid (LinesAt t i frm done)∧Own wr w.heap.size 9 1 A n c (done.map encNm)∧Below w.heap.size w wr) (fun _ _ v _=>t.length - (intOf v).toNat)
 case atStart=>exact ⟨0,0,[],none,0,0,rfl,rfl,rfl,by omega,by omega,by omega,LinesAt.start t,Own.nil_ _ _ _ _,Below.refl _ _⟩
 case round =>
  obtain ⟨i,frm,done,A,n,c,rfl,rfl,rfl,hi,hni,hfi,HL,ho,hb⟩:=hrel
  have hszr:=hb.size
  by_cases hlt : i < t.length
  ·have hp : i < (bytesOf t).size:=by omega
   have hix:=index_at (bytesOf t) i i rfl hp
   obtain ⟨x,hx⟩ : ∃ x,(bytesOf t)[i]'hp = x:=⟨_,rfl⟩
   have Hx : Hid (t[i]? = some x):=Lib.hid (by have:=get_list hp;rw [bytesOf_list,hx] at this;exact this)
   have hgi : (((bytesOf t)[i]'hp).toNat : Int) = (x.toNat : Int):=by rw [hx]
   rw [hx] at hix
   clear hx
   by_cases hx10 : x = 10
   ·have hz : ((x.toNat : Int) == 10) = true:=by rw [hx10];rfl
    have HL':=Lib.hid (LinesAt.line HL.out (by rw [Hx.out,hx10]))
    have HX:=Lib.hid (take_sub (l:=t) (a:=frm) (b:=i))
    clear hx10
    go_wp2_with (at_builtin;go_must (refine wpList_app rfl (.tmp 16) (.tmp 21) _ rfl w.heap.size 9 i0 _ 1 16 Tryz.underlying122 hi0 hz0 hz1 hz2 rfl (by omega) A n c (done.map encNm) rfl (ho.alloc _) _ 1 1 [encNm ((t.drop frm).take (i - frm))] rfl rfl (Rd.newAt (by simp) (by simp [encNm,HX.out])) (encNm_ok [(t.drop frm).take (i - frm)]) (by unfold maxLen;omega) (by omega) (by simp;omega) ?_);intro A3 c3 w3 ho3 hg3 hA3;have hb3:=below_app (hb.alloc (by omega) _) hg3 (by simp;omega) (fun a ha=>(ho.lt a ha).1);clear hg3)
    have Ho3 : Own w3 w.heap.size 9 1 A3 (n+1) c3 ((done++[(t.drop frm).take (i - frm)]).map encNm):=by rw [List.map_append];exact ho3
    clear ho3
    go_roundw
    case rel=>exact ⟨i+1,i+1,_,A3,n+1,c3,rfl,by go_num,by go_num,by omega,by omega,by omega,HL',Ho3,hb3⟩
    case measure=>simp [intOf];omega
   ·have hz : ((x.toNat : Int) == 10) = false:=beq_eq_false_iff_ne.2 (fun e=>hx10 ((u8_eq (n:=10) (by omega)).2 (by omega)))
    have HL':=Lib.hid (LinesAt.byte HL.out Hx.out hx10)
    clear hx10
    go_wp2
    go_roundw
    case rel=>exact ⟨i+1,frm,done,A,n,c,rfl,rfl,by go_num,by omega,by omega,by omega,HL',ho,hb⟩
    case measure=>simp [intOf];omega
  ·obtain rfl : i = t.length:=by omega
   have HE:=Lib.hid (LinesAt.done HL.out)
   have HX:=Lib.hid (ext_bytes t frm)
   rw [hsz] at HX
   go_wp2_with (at_builtin;go_must (refine wpList_app rfl (.tmp 25) (.tmp 29) _ rfl w.heap.size 9 i0 _ 1 16 Tryz.underlying122 hi0 hz0 hz1 hz2 rfl (by omega) A n c (done.map encNm) rfl (ho.alloc _) _ 1 1 [encNm (t.drop frm)] rfl rfl (Rd.newAt (by simp) (by simp [encNm,HX.out])) (encNm_ok [t.drop frm]) (by unfold maxLen;omega) (by omega) (by simp;omega) ?_);intro A3 c3 w3 ho3 hg3 hA3;have hb3:=below_app (hb.alloc (by omega) _) hg3 (by simp;omega) (fun a ha=>(ho.lt a ha).1);clear hg3)
   go_ret
   exact ⟨A3,n+1,c3,rfl,by rw [HE.out,List.map_append];exact ho3,hb3⟩
end
section
open Go.RowKit Go.Maps
theorem pBlank_eq : pBlank = blkB:=by
 funext c
 have h1 : c = 32 ↔ c.toNat = 32:=u8_eq (n:=32) (by omega)
 have h2 : c = 9 ↔ c.toNat = 9:=u8_eq (n:=9) (by omega)
 unfold pBlank blkB
 rw [Bool.eq_iff_iff]
 simp only [Bool.or_eq_true,beq_iff_eq,decide_eq_true_iff,h1,h2]
theorem trimB_eq (l : List UInt8) : trimB l = trimL l:=by unfold trimB trimL;rw [pBlank_eq]
theorem byte_of (t : List UInt8) {i : Nat} (hi : i < t.length) : ∃ x,t[i]? = some x∧∀ W,(Instr.index 9 (.string (bytesOf t)) (.int .i64 (i : Nat))).run Tryz.prog W = .ok (.int .u8 (x.toNat : Int)) W:=by
 have hp : i < (bytesOf t).size:=by rw [bytesOf_size];exact hi
 refine ⟨(bytesOf t)[i]'hp,?_,fun W=>index_at (bytesOf t) i i rfl hp W⟩
 have:=get_list hp
 rw [bytesOf_list] at this
 exact this
theorem take_at {q : UInt8→Bool} {l : List UInt8} {i : Nat} {x : UInt8} (hx : l[i]? = some x) : (q x = true→l.take i++(l.drop i).takeWhile q = l.take (i+1)++(l.drop (i+1)).takeWhile q)∧(q x = false→l.take i++(l.drop i).takeWhile q = l.take i):=by
 obtain ⟨hi,e⟩:=List.getElem?_eq_some_iff.1 hx
 rw [List.drop_eq_getElem_cons hi,e]
 constructor
 ·intro hq
  rw [List.takeWhile_cons,if_pos hq,List.take_add_one,hx]
  simp
 ·intro hq
  rw [List.takeWhile_cons,if_neg (by rw [hq];simp),List.append_nil]
theorem oplain_any (L : List UInt8) (w : World) (hL : L.length≤1000000) : Calls Tryz.prog 197 #[.string (bytesOf L)] w fun e w'=>e = .returned (.string (bytesOf (plainB L)))∧w = w':=by
 have hsz : (bytesOf L).size = L.length:=bytesOf_size L
 have HT:=Lib.hid (fun i W=>show Calls Tryz.prog 199 #[.string ((bytesOf L).extract 0 i)] W fun e w'=>e = .returned (.string (bytesOf (trimL (L.take i))))∧W = w' by
  rw [ext_bytes0];exact otrim_any (L.take i) W (by rw [List.length_take];omega))
 have HA:=Lib.hid (fun W=>otrim_any L W hL)
 have HP:=Lib.hid (show plainB L = trimL (L.takeWhile fun c=>decide (c.toNat ≠ 35)) by unfold plainB;rw [trimB_eq])
 go_enter Tryz.func197,Tryz.ntmps197
 go_wp2
 go_loopw [3] (fun v wr=>∃ i : Nat,v = .int .i64 i∧i≤L.length∧Hid ((L.takeWhile fun c=>decide (c.toNat ≠ 35)) = L.take i++(L.drop i).takeWhile fun c=>decide (c.toNat ≠ 35))∧wr = w) (fun v _=>L.length - (intOf v).toNat)
 case atStart=>exact ⟨0,rfl,by omega,Lib.hid rfl,rfl⟩
 case round =>
  obtain ⟨i,rfl,hi,HD,rfl⟩:=hrel
  by_cases hlt : i < L.length
  ·obtain ⟨x,hx,hix⟩:=byte_of L hlt
   by_cases h35 : x.toNat = 35
   ·have t1 : ((x.toNat : Int) == 35) = true:=by rw [beq_iff_eq];omega
    have HE:=Lib.hid (show plainB L = trimL (L.take i) by rw [HP.out,HD.out,(take_at hx).2 (by simp [h35])])
    have HT1:=Lib.hid (HT.out i wr)
    clear hx h35
    go_wp2_with (go_at_call 199;refine HT1.out.mono ?_;rintro e w' ⟨rfl,rfl⟩)
    go_ret
    exact ⟨by rw [HE.out];rfl,rfl⟩
   ·have t1 : ((x.toNat : Int) == 35) = false:=by rw [beq_eq_false_iff_ne];omega
    have HD2:=Lib.hid (HD.out.trans ((take_at hx).1 (by simp [h35])))
    clear hx h35
    go_wp2
    go_roundw
    case rel=>exact ⟨i+1,by go_num,by omega,HD2,by first | rfl | trivial⟩
    case measure=>simp [intOf];omega
  ·obtain rfl : i = L.length:=by omega
   have HE:=Lib.hid (show plainB L = trimL L by rw [HP.out,HD.out];simp)
   have HT1:=Lib.hid (HA.out wr)
   go_wp2_with (go_at_call 199;refine HT1.out.mono ?_;rintro e w' ⟨rfl,rfl⟩)
   go_ret
   exact ⟨by rw [HE.out];rfl,rfl⟩
theorem signP_some {l a b : List UInt8} {cut : Bool} (h : signP l = some (a,cut,b)) : ∃ c,l = a++c :: b∧(∀ x ∈ a,pSign x = false)∧pSign c = true∧(∀ x ∈ b,pSign x = false)∧cut = decide (c.toNat = 47):=by
 unfold signP at h
 split at h
 ·cases h
 ·rename_i c t hd
  split at h
  ·cases h
  ·rename_i hb
   injection h with h
   injection h with h1 h2
   injection h2 with h2 h3
   subst h1 h2 h3
   have hc : (!pSign c) = false:=by
    have h1:=List.head?_dropWhile_not (fun c=>!pSign c) l
    rw [hd] at h1
    simpa using h1
   refine ⟨c,?_,fun x hx=>?_,by simpa using hc,fun x hx=>?_,rfl⟩
   ·rw [← hd,List.takeWhile_append_dropWhile]
   ·have h1:=List.all_takeWhile (p:=fun c=>!pSign c) (l:=l)
    rw [List.all_eq_true] at h1
    simpa using h1 x hx
   ·cases hq : pSign x with
    | false=>rfl
    | true=>exact absurd (List.any_eq_true.2 ⟨x,hx,hq⟩) hb
theorem sign_tests (x : UInt8) : pSign x = (((x.toNat : Int) == 126) || ((x.toNat : Int) == 47)):=by
 unfold pSign
 rw [Bool.eq_iff_iff]
 simp only [Bool.or_eq_true,beq_iff_eq,decide_eq_true_iff]
 omega
theorem osplit_ok (a b : List UInt8) (c : UInt8) (w : World) (hz : (a++c :: b).length≤1000000) (ha : ∀ x ∈ a,pSign x = false) (hc : pSign c = true) (hb : ∀ x ∈ b,pSign x = false) : Calls Tryz.prog 198 #[.string (bytesOf (a++c :: b))] w fun e w'=>e = .returned (.int .i64 (a.length : Nat))∧w = w':=by
 have HI:=Lib.hid (fun i x (hx : (a++c :: b)[i]? = some x)=>show pSign x = decide (i = a.length) by
  rcases Nat.lt_trichotomy i a.length with h | h | h
  ·rw [List.getElem?_append_left h] at hx
   rw [ha x (List.mem_of_getElem? hx),decide_eq_false (by omega)]
  ·subst h
   rw [List.getElem?_append_right (Nat.le_refl _),Nat.sub_self,zH] at hx
   injection hx with hx
   subst hx
   rw [hc,decide_eq_true rfl]
  ·rw [List.getElem?_append_right (by omega)] at hx
   obtain ⟨j,hj⟩ : ∃ j,i - a.length = j+1:=⟨i - a.length - 1,by omega⟩
   rw [hj,zI] at hx
   rw [hb x (List.mem_of_getElem? hx),decide_eq_false (by omega)])
 have hl : (a++c :: b).length = a.length+1+b.length:=by simp;omega
 have hsz : (bytesOf (a++c :: b)).size = (a++c :: b).length:=bytesOf_size _
 have HB:=Lib.hid (fun i (hi : i < (a++c :: b).length)=>byte_of (a++c :: b) hi)
 obtain ⟨m,hm⟩ : ∃ m,a.length = m:=⟨_,rfl⟩
 rw [hm] at HI hl ⊢
 generalize a++c :: b = L at HI HB hsz hl hz ⊢
 clear ha hb hc hm
 go_enter Tryz.func198,Tryz.ntmps198
 go_wp2
 go_loopw [3,4] (fun u v wr=>∃ i : Nat,v = .int .i64 i∧i≤L.length∧((i≤m∧u = .int .i64 (-1))∨(m < i∧u = .int .i64 (m : Nat)))∧wr = w) (fun _ v _=>L.length - (intOf v).toNat)
 case atStart=>exact ⟨0,rfl,by omega,.inl ⟨by omega,rfl⟩,rfl⟩
 case round =>
  obtain ⟨i,rfl,hi,hcs,rfl⟩:=hrel
  by_cases hlt : i < L.length
  ·obtain ⟨x,hx,hix⟩:=HB.out i hlt
   have hq:=HI.out i x hx
   rw [sign_tests] at hq
   rcases Nat.lt_trichotomy i m with h | h | h
   ·rcases hcs with ⟨_,rfl⟩ | ⟨h2,_⟩
    ·rw [decide_eq_false (by omega),Bool.or_eq_false_iff] at hq
     obtain ⟨t1,t2⟩:=hq
     clear hx
     go_wp2
     go_roundw
     case rel=>exact ⟨i+1,by go_num,by omega,.inl ⟨by omega,rfl⟩,by first | rfl | trivial⟩
     case measure=>simp [intOf];omega
    ·omega
   ·subst h
    rcases hcs with ⟨_,rfl⟩ | ⟨h2,_⟩
    ·rw [decide_eq_true rfl,Bool.or_eq_true] at hq
     cases t1 : ((x.toNat : Int) == 126) with
     | true =>
      clear hx hq
      go_wp2
      go_roundw
      case rel=>exact ⟨i+1,by go_num,by omega,.inr ⟨by omega,rfl⟩,by first | rfl | trivial⟩
      case measure=>simp [intOf];omega
     | false =>
      have t2 : ((x.toNat : Int) == 47) = true:=by rcases hq with h | h;rw [t1] at h;cases h;exact h
      clear hx hq
      go_wp2
      go_roundw
      case rel=>exact ⟨i+1,by go_num,by omega,.inr ⟨by omega,rfl⟩,by first | rfl | trivial⟩
      case measure=>simp [intOf];omega
    ·omega
   ·rcases hcs with ⟨h2,_⟩ | ⟨_,rfl⟩
    ·omega
    ·rw [decide_eq_false (by omega),Bool.or_eq_false_iff] at hq
     obtain ⟨t1,t2⟩:=hq
     clear hx
     go_wp2
     go_roundw
     case rel=>exact ⟨i+1,by go_num,by omega,.inr ⟨by omega,rfl⟩,by first | rfl | trivial⟩
     case measure=>simp [intOf];omega
  ·obtain rfl : i = L.length:=by omega
   rcases hcs with ⟨h2,_⟩ | ⟨_,rfl⟩
   ·omega
   ·go_wp2
    go_ret
    exact ⟨rfl,rfl⟩
end
section
open Go.RowKit Go.Maps
end
section
open Go.RowKit
end
section
open Go.RowKit
def encC (x : Nat × Bool) : List Value:=[.int .i64 (x.1 : Nat),.bool x.2]
theorem encC_ok (l : List (Nat × Bool)) : ∀ y ∈ l.map encC,y.length = 2∧∀ u ∈ y,u.oneCell' = true:=by
 intro y hy;obtain ⟨r,_,rfl⟩:=List.mem_map.1 hy
 exact ⟨rfl,by simp [encC,Value.oneCell']⟩
theorem infoC : (Tryz.prog.info? 40).map (fun i=>(i.zero,i.size,i.bytes)) = some (some (.agg #[.int .i64 0,.bool false]),2,16):=by kernel_rfl
theorem lpick_next {c : List Int} {P : List Nat} {i a : Nat} (h : P[i]? = some a) : lPick c 0 (P.take (i+1)) = lPick c 0 (P.take i)++(if i ≠ 0∧lCut c i = true then [(a,lMust (c.getD (i - 1) 0))] else []):=by
 obtain ⟨h1,h2⟩:=List.getElem?_eq_some_iff.1 h
 rw [List.take_add_one,h,Option.toList_some,lPick_append,Nat.zero_add,List.length_take,Nat.min_eq_left (by omega),lPick,lPick,List.append_nil]
theorem lpick_one (c : List Int) (P : List Nat) : lPick c 0 (P.take 1) = []:=by
 cases P with
 | nil=>rfl
 | cons a r=>simp [lPick]
theorem tChances_any (s : ByteArray) (w : World) (hE : Env w) (hs : s.size≤1000000) :
  Calls Tryz.prog 92 #[.string s] w fun e w'=>∃ A n c,e = .returned (.slice A n c)∧Own w' w.heap.size 40 2 A n c ((lChances gL s).map encC)∧Below w.heap.size w w':=by
 obtain ⟨i0,hi0,hz0,hz1,hz2⟩:=info_parts infoC
 have HC:=Lib.hid (tscan_any s w hE hs)
 obtain ⟨P,HP⟩ : ∃ P,Hid ((runesP s).map (·.2.1) = P):=⟨_,Lib.hid rfl⟩
 obtain ⟨C,HCl⟩ : ∃ C,Hid (lCls gL s = C):=⟨_,Lib.hid rfl⟩
 have HW : Hid (lChances gL s = lPick C 0 P++(if s.size = 0 then [] else [(s.size,true)])):=Lib.hid (by rw [← HP.out,← HCl.out];rfl)
 have hPl : P.length = C.length:=by rw [← HP.out,← HCl.out,List.length_map,lCls_len]
 have hPz : P.length≤s.size:=by rw [← HP.out,List.length_map];exact runesP_len s
 clear hE
 go_enter Tryz.func92,Tryz.ntmps92
 go_wp2_with fail
 refine HC.out.mono ?_
 rintro e w1 ⟨A1,n1,c1,A2,n2,c2,rfl,o1,o2,hb1⟩
 clear HC
 rw [HP.out] at o1
 rw [HCl.out] at o2
 have hn1 : P.length = n1:=by have:=o1.len;simpa using this
 have hn2 : C.length = n2:=by have:=o2.len;simpa using this
 obtain rfl : n2 = n1:=by omega
 have Hn2:=Lib.hid hn2
 have Hn1:=Lib.hid hn1
 have hnz : n2≤s.size:=by omega
 clear hn1 hn2 hPl hPz
 have hK:=Blk.new w1 186 #[.slice A1 n2 c1,.slice A2 n2 c2]
 have hb2 : Below w1.heap.size w1 (w1.alloc (.cells #[.slice A1 n2 c1,.slice A2 n2 c2] 186)):=(Below.refl _ _).alloc (Nat.le_refl _) _
 have o1:=o1.below hb2
 have o2:=o2.below hb2
 have hb3:=below_step hb1 hb2 hb1.size
 have k0:=hK.cell 0
 have k1:=hK.cell 1
 simp only [zG,zH,zI] at k0 k1
 go_wp2_with fail
 generalize (w1.alloc (.cells #[.slice A1 n2 c1,.slice A2 n2 c2] 186)) = w3 at hK o1 o2 hb3 k0 k1 ⊢
 generalize w1.heap.size = bx at hK k0 k1 ⊢
 have rd1:=o1.rd (by decide)
 have rd2:=o2.rd (by decide)
 have hsz3:=hb3.size
 clear o1 o2 hb1 hb2
 go_loopw [4,5] (fun v u wr=>∃ (i : Nat) (A : Option Addr) (n c : Nat) (O : List (Nat × Bool)),v = .slice A n c∧u = .int .i64 i∧1≤i∧i≤n2+1∧Own wr w3.heap.size 40 2 A n c (O.map encC)∧n≤i∧Hid (O = lPick C 0 (P.take i))∧Below w3.heap.size w3 wr) (fun _ u _=>n2 - (intOf u).toNat)
 case atStart=>exact ⟨1,none,0,0,[],rfl,rfl,by omega,by omega,Own.nil_ _ _ _ _,by omega,Lib.hid (lpick_one C P).symm,Below.refl _ _⟩
 case round =>
  obtain ⟨i,A,n,c,O,rfl,rfl,h1i,hi,ho,hni,HO,hb⟩:=hrel
  have hszr:=hb.size
  by_cases hlt : i < n2
  ·obtain ⟨a,Ha⟩ : ∃ a,Hid (P[i]? = some a):=⟨_,Lib.hid (List.getElem?_eq_getElem (by have:=Hn1.out;omega))⟩
   obtain ⟨p,Hp⟩ : ∃ a,Hid (C[i - 1]? = some a):=⟨_,Lib.hid (List.getElem?_eq_getElem (by have:=Hn2.out;omega))⟩
   obtain ⟨b1,off1,rfl,hc1⟩:=rd1.atP Ha.out
   obtain ⟨b2,off2,rfl,hc2⟩:=rd2.atZ Hp.out
   have j0:=cell_keep k0 hb
   have j1:=cell_keep k1 hb
   have HN:=Lib.hid (lpick_next (c:=C) Ha.out)
   rw [← HO.out,getD_of Hp.out] at HN
   obtain ⟨j,hj⟩ : ∃ j,i - 1 = j:=⟨_,rfl⟩
   have e1 : (i : Int) - 1 = (j : Int):=by omega
   rw [hj] at hc2
   clear hj
   have HCu:=Lib.hid (tcut_any (some ⟨b1,off1,none⟩) (some ⟨b2,off2,none⟩) n2 c1 n2 c2 C i wr (rd2.below hb) Hn2.out (by omega) (by omega) (by omega))
   cases hcu : lCut C i with
   | true =>
    have HN' : Hid (O++[(a,lMust p)] = lPick C 0 (P.take (i+1))):=Lib.hid (by rw [HN.out,if_pos ⟨by omega,hcu⟩])
    obtain ⟨m,Hm⟩ : ∃ m,Hid (lMust p = m):=⟨_,Lib.hid rfl⟩
    rw [Hm.out] at HN'
    rw [hcu] at HCu
    clear hcu HN
    go_upto_region 7 with (go_at_call 150;refine HCu.out.mono ?_;rintro e w5 ⟨rfl,hb5⟩;have hbb:=below_step hb hb5 hb.size;have ho5:=ho.below hb5)
    have hs5:=hbb.size
    have q1 : IntKind.i64.wrap ((i : Int) - 1) = (i : Int) - 1:=IntWalk.i64_in _ (by omega)
    have q2 : IntKind.i64.wrap (j : Int) = (j : Int):=IntWalk.i64_in _ (by omega)
    have q3 : (j : Int) < (n2 : Int):=by omega
    have q4 : (i : Int) < (n2 : Int):=by omega
    have q5 : (0 : Int)≤(j : Int):=by omega
    have q6 : j < n2:=by omega
    have HST:=Lib.hid (fun (V : World) (h : Below w3.heap.size w3 V)=>And.intro (cell_keep k0 h) (And.intro (cell_keep k1 h) (And.intro (cell_keep hc1 h) (And.intro (cell_keep hc2 h) h))))
    clear HCu ho hb hszr j0 j1
    go_wp2_with fail
    go_region_held3 (fun V=>V.cell? ⟨bx,0,none⟩ = some (.slice (some ⟨b1,off1,none⟩) n2 c1)∧V.cell? ⟨bx,1,none⟩ = some (.slice (some ⟨b2,off2,none⟩) n2 c2)∧V.cell? ⟨b1,off1+i,none⟩ = some (.int .i64 (a : Nat))∧V.cell? ⟨b2,off2+j,none⟩ = some (.int .i64 p)∧Below w3.heap.size w3 V)
     (first | exact HST.out _ hb4 | exact HST.out _ (hbz.alloc hbz.size _) | exact HST.out _ hbz | exact HST.out _ hbb | exact HST.out _ (below_drewN hbb 1))
     (first
      | (go_at_call 151;go_split_ands;refine (tmust_any _ _).mono ?_;rw [Hm.out];rintro e wz ⟨rfl,hz⟩;have hbz:=below_step (below_drewN hbb 1) hz hbb.size;have ho6:=Own.below (w:=w5.drew) ho5 hz;have hsz:=hbz.size)
      | (refine step_app rfl (.tmp 18) (.tmp 32) _ rfl w3.heap.size 40 i0 _ 2 16 Tryz.underlying50 hi0 hz0 hz1 hz2 rfl (by omega) A n c (O.map encC) rfl (ho6.alloc _) _ 1 1 [encC (a,m)] rfl rfl (Rd.newAt (by simp) rfl) (encC_ok [(a,m)]) (by unfold maxLen;omega) (by omega) (by simp;omega) ?_;intro A3 c3 w4 ho4 hg4 hA4;have hb4:=below_app (hbz.alloc (by omega) _) hg4 (by simp;omega) (fun a ha=>by have:=(ho6.lt a ha).1;omega)))
    go_wp2
    go_roundw
    case rel=>exact ⟨i+1,A3,n+1,c3,O++[(a,m)],rfl,by go_num,by omega,by omega,by rw [List.map_append];exact ho4,by omega,HN',hb4⟩
    case measure=>simp [intOf];omega
   | false =>
    have HN' : Hid (O = lPick C 0 (P.take (i+1))):=Lib.hid (by rw [HN.out,if_neg (by rw [hcu];simp),List.append_nil])
    rw [hcu] at HCu
    clear hcu HN
    go_wp2_with (go_at_call 150;refine HCu.out.mono ?_;rintro e w5 ⟨rfl,hb5⟩;have hbb:=below_step hb hb5 hb.size;have ho5:=ho.below hb5)
    go_roundw
    case rel=>exact ⟨i+1,A,n,c,O,rfl,by go_num,by omega,by omega,ho5,by omega,HN',hbb⟩
    case measure=>simp [intOf];omega
  ·have hO : Hid (O = lPick C 0 P):=Lib.hid (by rw [HO.out,List.take_of_length_le (by have:=Hn1.out;omega)])
   have j0:=cell_keep k0 hb
   by_cases hz : 0 < s.size
   ·have HV : Hid (O++[(s.size,true)] = lChances gL s):=Lib.hid (by rw [HW.out,hO.out,if_neg (by omega)])
    go_wp2_with (at_builtin;go_must (refine wpList_app rfl (.tmp 37) (.tmp 41) _ rfl w3.heap.size 40 i0 _ 2 16 Tryz.underlying50 hi0 hz0 hz1 hz2 rfl (by omega) A n c (O.map encC) rfl (ho.alloc _) _ 1 1 [encC (s.size,true)] rfl rfl (Rd.newAt (by simp) rfl) (encC_ok [(s.size,true)]) (by unfold maxLen;omega) (by omega) (by simp;omega) ?_);intro A3 c3 w4 ho4 hg4 hA4;have hb4:=below_app (hb.alloc (by omega) _) hg4 (by simp;omega) (fun a ha=>by have:=(ho.lt a ha).1;omega);clear hg4 hA4)
    go_ret
    exact ⟨A3,n+1,c3,rfl,by rw [← HV.out,List.map_append];exact ho4.more hsz3,below_step hb3 hb4 hsz3⟩
   ·have HV : Hid (O = lChances gL s):=Lib.hid (by rw [HW.out,hO.out,if_pos (by omega),List.append_nil])
    go_wp2
    go_ret
    exact ⟨A,n,c,rfl,by rw [← HV.out];exact ho.more hsz3,below_step hb3 hb hsz3⟩
end
section
open Go.RowKit
def kinP : List (Nat × Bool)→Int→Int
 | [],_=>0
 | x :: r,k=>if ((x.1 : Int) == k) then (if x.2 then 2 else 1) else kinP r k
theorem drop_of {α : Type} {l : List α} {i : Nat} {x : α} (h : l[i]? = some x) : l.drop i = x :: l.drop (i+1):=by
 obtain ⟨h1,h2⟩:=List.getElem?_eq_some_iff.1 h
 rw [List.drop_eq_getElem_cons h1,h2]
theorem Rd.atC {w : World} {A : Option Addr} {l : List (Nat × Bool)} {k : Nat} {x : Nat × Bool} (h : Rd w 2 A (l.map encC)) (hk : l[k]? = some x) :
  ∃ b off,A = some ⟨b,off,none⟩∧w.cell? ⟨b,off+k*2,none⟩ = some (.int .i64 (x.1 : Nat))∧w.cell? ⟨b,off+k*2+1,none⟩ = some (.bool x.2):=by
 obtain ⟨b,off,rfl,hc⟩:=h (by intro e;cases l with | nil=>simp at hk | cons _ _=>simp at e)
 have h0:=hc k 0 (encC x) (.int .i64 (x.1 : Nat)) (by simp [hk]) rfl
 have h1:=hc k 1 (encC x) (.bool x.2) (by simp [hk]) rfl
 exact ⟨b,off,rfl,by simpa using h0,h1⟩
theorem Rd.many (W : World) (t : TypeId) (s : Nat) (cs : List (List Value)) (arr : Array Value) (harr : arr = cs.flatten.toArray) (h : ∀ x ∈ cs,x.length = s) : Rd (W.alloc (.cells arr t)) s (some ⟨W.heap.size,0,none⟩) cs:=fun _ =>
 ⟨W.heap.size,0,rfl,fun k j x u hx hu=>by
  subst harr
  rw [(Blk.new W t cs.flatten.toArray).cell (0+k*s+j),zG,Nat.zero_add]
  exact flatten_get h hx hu⟩
theorem tKind_any (s : ByteArray) (k : Int) (w : World) (hE : Env w) (hs : s.size≤1000000) :
  Calls Tryz.prog 35 #[.string s,.int .i64 k] w fun e w'=>e = .returned (.int .i64 (kinP (lChances gL s) k))∧Below w.heap.size w w':=by
 have HC:=Lib.hid (tChances_any s w hE hs)
 obtain ⟨L,HL⟩ : ∃ L,Hid (lChances gL s = L):=⟨_,Lib.hid rfl⟩
 have HW : Hid (kinP (lChances gL s) k = kinP L k):=Lib.hid (by rw [HL.out])
 clear hE
 go_enter Tryz.func35,Tryz.ntmps35
 go_wp2_with fail
 refine HC.out.mono ?_
 rw [HL.out]
 rintro e w1 ⟨A,n,c,rfl,ho,hb1⟩
 clear HC
 have hn : L.length = n:=by have:=ho.len;simpa using this
 have Hn:=Lib.hid hn
 have hcap:=ho.cap
 unfold maxLen at hcap
 have rd:=ho.rd (by decide)
 have hsz1:=hb1.size
 clear hn
 go_wp2_with fail
 go_loopw [10] (fun v wr=>∃ j : Nat,v = .int .i64 j∧j≤n∧Hid (kinP (L.drop j) k = kinP L k)∧Below w1.heap.size w1 wr) (fun v _=>n - (intOf v).toNat)
 case atStart=>exact ⟨0,rfl,by omega,Lib.hid rfl,Below.refl _ _⟩
 case round =>
  obtain ⟨j,rfl,hj,HK,hb⟩:=hrel
  have hbb:=below_step hb1 hb hsz1
  by_cases hlt : j < n
  ·obtain ⟨⟨a,m⟩,Hx⟩ : ∃ x,Hid (L[j]? = some x):=⟨_,Lib.hid (List.getElem?_eq_getElem (by have:=Hn.out;omega))⟩
   obtain ⟨b,off,rfl,c0,c1⟩:=rd.atC Hx.out
   simp only at c0 c1
   have c0:=cell_keep c0 hb
   have c1:=cell_keep c1 hb
   have HD:=Lib.hid (drop_of Hx.out)
   obtain ⟨q,hq⟩ : ∃ q,((a : Int) == k) = q:=⟨_,rfl⟩
   have HS : Hid (kinP L k = if q then (if m then 2 else 1) else kinP (L.drop (j+1)) k):=Lib.hid (by rw [← HK.out,HD.out,kinP,hq])
   have hb2 : Below w1.heap.size w1 (wr.alloc (.cells #[.int .i64 (a : Nat),.bool m] 40)):=hb.alloc hb.size _
   have hB:=Blk.new wr 40 #[.int .i64 (a : Nat),.bool m]
   have d0:=hB.cell 0
   have d1:=hB.cell 1
   simp only [zG,zH,zI] at d0 d1
   cases q with
   | true =>
    cases m with
    | true =>
     go_wp2
     go_ret
     exact ⟨by rw [HW.out,HS.out];rfl,below_step hb1 hb2 hsz1⟩
    | false =>
     go_wp2
     go_ret
     exact ⟨by rw [HW.out,HS.out];rfl,below_step hb1 hb2 hsz1⟩
   | false =>
    have HK' : Hid (kinP (L.drop (j+1)) k = kinP L k):=Lib.hid (by rw [HS.out];rfl)
    go_wp2
    go_roundw
    case rel=>exact ⟨j+1,by go_num,by omega,HK',hb2⟩
    case measure=>simp [intOf];omega
  ·have HV : Hid (kinP L k = 0):=Lib.hid (by rw [← HK.out,List.drop_eq_nil_of_le (by have:=Hn.out;omega)];rfl)
   go_wp2
   go_ret
   exact ⟨by rw [HW.out,HV.out];rfl,hbb⟩
def prevGo (k : Int) (l : List (Nat × Bool)) (b : (Nat × Bool) × Bool) : (Nat × Bool) × Bool:=l.foldl (fun b x=>if (x.1 : Int) < k then (x,true) else b) b
theorem res_prev (w : World) (b : Nat) (tmps : Array Value) (ht : tmps.getD 4 undef = .pointer (some ⟨b,0,none⟩)) {a : Int} {m : Bool} {v : Value} (h5 : tmps.getD 5 undef = v) (h : Blk w b 40 #[.int .i64 a,.bool m]) :
  (results Tryz.f33 tmps).run Tryz.prog w = .ok (.tuple #[.agg #[.int .i64 a,.bool m],v]) w:=by
 have ht' : tmps[4]?.getD undef = .pointer (some ⟨b,0,none⟩):=by simpa [Array.getD_eq_getD_getElem?] using ht
 have h5' : tmps[5]?.getD undef = v:=by simpa [Array.getD_eq_getD_getElem?] using h5
 have h0:=h.cell 0
 have h1:=h.cell 1
 simp only [zG,zH,zI] at h0 h1
 simp [results,Tryz.results33,go_sem,ht',h5',h0,h1]
theorem tPrev_any (s : ByteArray) (k : Int) (w : World) (hE : Env w) (hs : s.size≤1000000) :
  Calls Tryz.prog 33 #[.string s,.int .i64 k] w fun e w'=>e = .returned (.tuple #[.agg #[.int .i64 (prevGo k (lChances gL s) ((0,false),false)).1.1,.bool (prevGo k (lChances gL s) ((0,false),false)).1.2],.bool (prevGo k (lChances gL s) ((0,false),false)).2])∧Below w.heap.size w w':=by
 have hB0 : Below w.heap.size w (w.alloc (.cells #[.int .i64 0,.bool false] 40)):=(Below.refl _ _).alloc (Nat.le_refl _) _
 have hR0:=Blk.new w 40 #[.int .i64 0,.bool false]
 have HC:=Lib.hid (tChances_any s _ (hE.below hB0) hs)
 obtain ⟨L,HL⟩ : ∃ L,Hid (lChances gL s = L):=⟨_,Lib.hid rfl⟩
 rw [HL.out]
 obtain ⟨R,HR⟩ : ∃ R,Hid (prevGo k L ((0,false),false) = R):=⟨_,Lib.hid rfl⟩
 rw [HR.out]
 clear hE
 go_enter Tryz.func33,Tryz.ntmps33
 go_wp2_with fail
 refine HC.out.mono ?_
 rw [HL.out]
 rintro e w1 ⟨A,n,c,rfl,ho,hb1⟩
 clear HC
 have hn : L.length = n:=by have:=ho.len;simpa using this
 have Hn:=Lib.hid hn
 have hcap:=ho.cap
 unfold maxLen at hcap
 have hR1:=hR0.below hb1
 have hB1:=hB0.trans (hb1.mono hB0.size)
 have ho:=ho.more (b':=w.heap.size+1) (by simp)
 have hsz1:=hB1.size
 clear hn hR0 hB0 hb1
 go_wp2_with fail
 go_loopw [5,11] (fun v u wr=>∃ (j : Nat) (a : Nat) (m b : Bool),v = .bool b∧u = .int .i64 j∧j≤n∧Hid (prevGo k (L.drop j) ((a,m),b) = R)∧Blk wr w.heap.size 40 #[.int .i64 (a : Nat),.bool m]∧Own wr (w.heap.size+1) 40 2 A n c (L.map encC)∧Below w.heap.size w wr) (fun _ u _=>n - (intOf u).toNat)
 case atStart=>exact ⟨0,0,false,false,rfl,rfl,by omega,HR,hR1,ho,hB1⟩
 case round =>
  clear hR1 ho hB1
  obtain ⟨j,a0,m0,b0,rfl,rfl,hj,HK,hR,ho,hb⟩:=hrel
  have hszr:=hb.size
  by_cases hlt : j < n
  ·obtain ⟨⟨a,m⟩,Hx⟩ : ∃ x,Hid (L[j]? = some x):=⟨_,Lib.hid (List.getElem?_eq_getElem (by have:=Hn.out;omega))⟩
   obtain ⟨b,off,rfl,c0,c1⟩:=(ho.rd (by decide)).atC Hx.out
   simp only at c0 c1
   have HD:=Lib.hid (drop_of Hx.out)
   have HS : Hid (prevGo k (L.drop (j+1)) (if (a : Int) < k then ((a,m),true) else ((a0,m0),b0)) = R):=Lib.hid (by rw [← HK.out,HD.out];rfl)
   have hb2 : Below w.heap.size w (wr.alloc (.cells #[.int .i64 (a : Nat),.bool m] 40)):=hb.alloc hb.size _
   have hB:=Blk.new wr 40 #[.int .i64 (a : Nat),.bool m]
   have hR2:=hR.alloc (.cells #[.int .i64 (a : Nat),.bool m] 40)
   have ho2:=ho.alloc (.cells #[.int .i64 (a : Nat),.bool m] 40)
   have d0:=hB.cell 0
   have d1:=hB.cell 1
   have r0:=hR2.cell 0
   have r1:=hR2.cell 1
   have f0:=hR2.frozen 0
   have f1:=hR2.frozen 1
   simp only [zG,zH,zI] at d0 d1 r0 r1
   by_cases hq : (a : Int) < k
   ·have HK' : Hid (prevGo k (L.drop (j+1)) ((a,m),true) = R):=Lib.hid (by rw [← HS.out,if_pos hq])
    have hl1 : ∀ z,(some ⟨b,off,none⟩ : Option Addr) = some z→z.block ≠ w.heap.size:=fun z hz=>by have:=(ho.lt z hz).1;omega
    have hbf:=(hb2.setCell (p:=⟨w.heap.size,0,none⟩) (Nat.le_refl _) (.int .i64 (a : Nat))).setCell (p:=⟨w.heap.size,1,none⟩) (Nat.le_refl _) (.bool m)
    have hof:=(ho2.setCell (p:=⟨w.heap.size,0,none⟩) hl1 (.int .i64 (a : Nat))).setCell (p:=⟨w.heap.size,1,none⟩) hl1 (.bool m)
    have hRf:=(hR2.set_ 0 (.int .i64 (a : Nat))).set_ 1 (.bool m)
    go_wp2
    go_roundw
    case rel=>exact ⟨j+1,a,m,true,rfl,by go_num,by omega,HK',by simpa using hRf,hof,hbf⟩
    case measure=>simp [intOf];omega
   ·have HK' : Hid (prevGo k (L.drop (j+1)) ((a0,m0),b0) = R):=Lib.hid (by rw [← HS.out,if_neg hq])
    go_wp2
    go_roundw
    case rel=>exact ⟨j+1,a0,m0,b0,rfl,by go_num,by omega,HK',hR2,ho2,hb2⟩
    case measure=>simp [intOf];omega
  ·have HV : Hid (R = ((a0,m0),b0)):=Lib.hid (by rw [← HK.out,List.drop_eq_nil_of_le (by have:=Hn.out;omega)];rfl)
   have r0:=hR.cell 0
   have r1:=hR.cell 1
   have f0:=hR.frozen 0
   have f1:=hR.frozen 1
   simp only [zG,zH,zI] at r0 r1
   have hRf:=(hR.set_ 0 (.int .i64 (a0 : Nat))).set_ 1 (.bool m0)
   have hbf:=(hb.setCell (p:=⟨w.heap.size,0,none⟩) (Nat.le_refl _) (.int .i64 (a0 : Nat))).setCell (p:=⟨w.heap.size,1,none⟩) (Nat.le_refl _) (.bool m0)
   go_wp2
   refine bodyPost_ret (res_prev _ w.heap.size _ rfl rfl (by simpa using hRf)) rfl ?_
   exact ⟨by rw [HV.out];rfl,hbf⟩
end
end Go.Proofs.YtglmcknlnoknoaaGreatDoor
