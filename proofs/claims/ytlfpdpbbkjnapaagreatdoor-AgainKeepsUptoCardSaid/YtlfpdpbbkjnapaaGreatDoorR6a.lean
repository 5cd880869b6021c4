/-
 Several texts in one,in their build order: Wh,WitL,Wi,Wj,Vb,Qt,Vd,PrB,PrC,PrD,PrE,PrF,PrG,PrH,PrI,PrJ,PrM,Vf,PrK,PrL,PrN,Qd,Vi,Vm,PtP,Vc,Ve,Vg,Vh,PrO,PrQ,Ga,Ke,Kf.
-/
import Derived.Test.YtlfpdpbbkjnapaaGreatDoorCards
import Derived.Test.YtlfpdpbbkjnapaaGreatDoorTie
import Derived.PinnedBridge
import Derived.Lib.LaidIn
import Derived.Lib.LaidU8
import Derived.Lib.LaidTab
import Derived.Shelf.Vars
import Derived.Deep.DeepHandedRow
import Derived.Deep.DeepWitnessRowRef
import Derived.ProofKit
import Derived.Deep.CutRange
import Derived.OwnWalk
import Derived.Deep.DeepCutAuto
import Derived.RegionTactic
import Derived.BigRegion
import Derived.Deep.RegionHeld3
import Derived.Test.YtlfpdpbbkjnapaaGreatDoorRWf
import Derived.Test.YtlfpdpbbkjnapaaGreatDoorRWg
import Derived.Test.YtlfpdpbbkjnapaaGreatDoorR0a
import Derived.Test.YtlfpdpbbkjnapaaGreatDoorRRdr
import Derived.Test.YtlfpdpbbkjnapaaGreatDoorR2a
import Derived.Test.YtlfpdpbbkjnapaaGreatDoorR1a
import Derived.Test.YtlfpdpbbkjnapaaGreatDoorR0b
import Derived.Test.YtlfpdpbbkjnapaaGreatDoorRRefX
import Derived.Test.YtlfpdpbbkjnapaaGreatDoorRKd
/- -/
namespace Go.Proofs.YtlfpdpbbkjnapaaGreatDoor
set_option maxRecDepth 100000
set_option maxHeartbeats 40000000
section
open Go.RowKit Go.Maps
structure Env (w : World) : Prop where
 tabs : Tabs w
 max : MaxW w
 tabB : TabB w
theorem Env.below {w w' : World} (h : Env w) (hb : Below w.heap.size w w') : Env w':=⟨h.tabs.below hb,h.max.below hb,cell_keep h.tabB hb⟩
theorem wpList_insert_own {H : Type} {P : Program} (w : World) {ops : Array Oper} {rest : List Oper} {o : Oper} {a : Act} {Q : Exit→Act→World→Prop}
  (hg : o.guard = none) (m x v : Operand) (t : TypeId) (hop : o.op = Op.insert t m x v)
  (k e : TypeId) (K : Keyed P k) (ht : P.underlying t = some (.map k e)) (R : Value→Option (DataW H × List MemPlace)) (b n : Nat) (D : DataW H)
  (hm : a.eval m = .map (some b)) (hown : w.ownsMap P k R b n D) (hn : n < maxLen) (key val : Value) (kl : Lit) (hx : a.eval x = key) (hv : a.eval v = val) (hkey : keyOf P k key = some kl)
  (d : DataW H) (ps : List MemPlace) (hval : R val = some (d,ps))
  (hK : ∀ w',w'.ownsMap P k R b (n+1) (D.put kl d)→w.grownBy w' (some b)→wpList P ops Q rest (a.put o.dst undef) w') :
  wpList P ops Q (o :: rest) a w:=by
 refine wpList_plain hg fun K' hK'=>?_
 obtain ⟨w',hrun,r1,r2⟩:=hown.update K ht hn hkey hval
 unfold Oper.wp
 simp [execOp,hop,hm,hx,hv,hrun,Result.andThen]
 exact hK' _ _ (hK w' r1 r2)
theorem mem_lenL : ∀ {L : List (List UInt8)} {l : List UInt8},l ∈ L→l.length+1≤lenL L
 | [],l,h=>by simp at h
 | a :: L,l,h=>by
  rcases List.mem_cons.1 h with rfl | h
  ·simp only [lenL];omega
  ·have:=mem_lenL h;simp only [lenL];omega
theorem line_len {t : List UInt8} {i : Nat} {l : List UInt8} (h : (splitL t)[i]? = some l) : l.length≤t.length:=by
 have:=mem_lenL (List.mem_of_getElem? h);rw [split_len] at this;omega
theorem addL_err {d : DbP} {n s : List UInt8} {k : Int} (h : addL d n s = .error k) : 6≤k:=by
 unfold addL at h
 split at h
 ·injection h with h;omega
 ·split at h
  ·rename_i e he
   injection h with h;subst h
   unfold parseE at he
   split at he
   ·rename_i y hy
    injection he with he
    have:=parse_code hy;omega
   ·cases he
  ·split at h
   ·split at h
    ·injection h with h;omega
    ·cases h
   ·split at h
    ·injection h with h;omega
    ·split at h
     ·injection h with h;omega
     ·cases h
theorem addS_err {d : DbP} {u : List UInt8} {k : Int} (h : addS d u = .error k) : 6≤k:=by
 unfold addS at h
 split at h
 ·injection h with h;omega
 ·exact addL_err h
theorem lineU_len (l : List UInt8) : (lineU l).length≤l.length:=by
 unfold lineU
 refine Nat.le_trans (trimL_len _) ?_
 rw [List.length_take];omega
def NewEnd (r : Except (Int × Nat) DbP) (e : Ending) (w' : World) : Prop :=
 match r with
 | .error x=>e = .returned (.tuple #[.pointer none,.int .i64 x.1,.int .i64 (x.2 : Int)])
 | .ok d=>∃ p,e = .returned (.tuple #[.pointer (some ⟨p,0,none⟩),.int .i64 0,.int .i64 0])∧DbAt w' p d
theorem NewEnd.err {r : Except (Int × Nat) DbP} {k : Int} {i : Nat} {w' : World} (h : r = .error (k,i)) : NewEnd r (.returned (.tuple #[.pointer none,.int .i64 k,.int .i64 (i : Int)])) w':=by rw [h];exact rfl
theorem NewEnd.fine {r : Except (Int × Nat) DbP} {d : DbP} {p : Nat} {w' : World} (h : r = .ok d) (hd : DbAt w' p d) : NewEnd r (.returned (.tuple #[.pointer (some ⟨p,0,none⟩),.int .i64 0,.int .i64 0])) w':=by rw [h];exact ⟨p,rfl,hd⟩
theorem own_one {w : World} {t : TypeId} {u : Value} {base : Nat} (hb : base≤w.heap.size) : Own (w.alloc (.cells #[u] t)) base t 1 (some ⟨w.heap.size,0,none⟩) 1 1 [[u]] :=
 ⟨rfl,by simp,by simp,.inr ⟨w.heap.size,1,#[u],rfl,hb,heap_alloc_new _ _,Nat.le_refl _,by unfold maxLen;omega,rfl,by simp⟩⟩
theorem dbX_first {w w2 : World} {D : DataW Unit} (hD : D = (DataW.map []).put (.string otherL) (.lit (.int .i64 0)))
  (hown : w2.ownsMap Tryz.prog 9 (plainElem (H:=Unit) Tryz.prog 3) (w.heap.size+1) 1 D) (hg : ((w.alloc (.cells #[.string (bytesOf otherL)] 9)).alloc (.map #[] 0)).grownBy w2 (some (w.heap.size+1))) :
  DbX ((w2.alloc (.cells #[.slice none 0 0] 239)).alloc (.cells #[.slice (some ⟨w.heap.size,0,none⟩) 1 1,.map (some (w.heap.size+1)),.slice (some ⟨w2.heap.size,0,none⟩) 1 1,.slice none 0 0] 229)) w.heap.size (w2.heap.size+1) (w2.heap.size+2)
   (some ⟨w.heap.size,0,none⟩) 1 1 (w.heap.size+1) 1 D (some ⟨w2.heap.size,0,none⟩) 1 1 [(none,0,0)] [otherL] [[]] ∧
  Below w.heap.size w ((w2.alloc (.cells #[.slice none 0 0] 239)).alloc (.cells #[.slice (some ⟨w.heap.size,0,none⟩) 1 1,.map (some (w.heap.size+1)),.slice (some ⟨w2.heap.size,0,none⟩) 1 1,.slice none 0 0] 229)):=by
 have hs2:=hg.size
 simp at hs2
 have n1 : Own (w.alloc (.cells #[.string (bytesOf otherL)] 9)) w.heap.size 9 1 (some ⟨w.heap.size,0,none⟩) 1 1 ([otherL].map encNm):=own_one (Nat.le_refl _)
 have n2:=((n1.alloc (.map #[] 0)).grown hg (fun a ha e=>by injection ha with ha;subst ha;injection e with e;simp only at e;omega))
 have s3 : Own (w2.alloc (.cells #[.slice none 0 0] 239)) w.heap.size 239 1 (some ⟨w2.heap.size,0,none⟩) 1 1 ([((none : Option Addr),0,0)].map encSl):=own_one (by omega)
 refine ⟨⟨?_,by omega,(n2.alloc _).alloc _,(hown.alloc _).alloc _,Nat.le_refl _,by omega,?_,s3.alloc _,⟨rfl,?_⟩,by omega,by omega,fun a ha=>by injection ha with ha;subst ha;show w.heap.size ≠ w2.heap.size+2;omega,fun a ha=>by injection ha with ha;subst ha;show w2.heap.size ≠ w2.heap.size+2;omega⟩,?_⟩
 ·have:=Blk.new (w2.alloc (.cells #[.slice none 0 0] 239)) 229 #[.slice (some ⟨w.heap.size,0,none⟩) 1 1,.map (some (w.heap.size+1)),.slice (some ⟨w2.heap.size,0,none⟩) 1 1,.slice none 0 0]
  simpa using this
 ·rw [hD];exact MapIs.nil_.put otherL rfl
 ·intro k x l hx hl
  match k,hx,hl with
  | 0,hx,hl=>simp at hx hl;subst hx;subst hl;exact Own.nil_ _ _ _ _
  | k+1,hx,hl=>simp at hx
 ·have h1 : Below w.heap.size w ((w.alloc (.cells #[.string (bytesOf otherL)] 9)).alloc (.map #[] 0)):=((Below.refl _ _).alloc (Nat.le_refl _) _).alloc (by simp) _
  have h2:=h1.grown hg (by simp;omega) (fun k hk=>by injection hk with hk;omega)
  exact (h2.alloc (by omega) _).alloc (by simp;omega) _
theorem wNew_any (t : List UInt8) (w : World) (hE : Env w) (ht : t.length≤maxLen) :
  Calls Tryz.prog 133 #[.string (bytesOf t)] w fun e w'=>NewEnd (newP t) e w'∧Below w.heap.size w w':=by
 have hsz : (bytesOf t).size = t.length:=bytesOf_size t
 have hmm:=@run_makeMap Tryz.prog
 unfold maxLen at ht
 by_cases hl : 65536 < t.length
 ·have HE:=Lib.hid (newP_long hl)
  go_enter Tryz.func133,Tryz.ntmps133
  go_wp2
  go_ret3
  exact ⟨NewEnd.err HE.out,Below.refl _ _⟩
 ·have HG:=Lib.hid (newP_go hl)
  obtain ⟨m,hm⟩:=hE.max
  have Hm:=Lib.hid hm
  clear hm
  go_enter Tryz.func133,Tryz.ntmps133
  have hkey : keyOf Tryz.prog 9 (.string ⟨#[79,116,104,101,114]⟩) = some (.string otherL):=keyS (n:=otherL) (by decide)
  have ho0:=World.ownsMap_made (H:=Unit) (w.alloc (.cells #[.string (bytesOf otherL)] 9)) Tryz.prog 9 (plainElem (H:=Unit) Tryz.prog 3)
  rw [show (w.alloc (.cells #[.string (bytesOf otherL)] 9)).heap.size = w.heap.size+1 by simp] at ho0
  go_wp2_with ((refine wpList_insert_own _ rfl _ _ _ 226 rfl 9 3 keyedS Tryz.underlying226 _ (w.heap.size+1) 0 (.map []) rfl ho0 (by unfold maxLen;omega) _ _ (.string otherL) rfl rfl hkey _ [] (plainElem_int Tryz.underlying3 (WalkArith.wf_i64 (by omega))) ?_;intro w2 hown2 hg2))
  have hF:=dbX_first rfl hown2 hg2
  have hg2s:=hg2.size
  obtain ⟨hX,hB0⟩:=hF
  have hsx : w2.heap.size+2 = (((w2.alloc (.cells #[.slice none 0 0] 239)).alloc (.cells #[.slice (some ⟨w.heap.size,0,none⟩) 1 1,.map (some (w.heap.size+1)),.slice (some ⟨w2.heap.size,0,none⟩) 1 1,.slice none 0 0] 229))).heap.size:=by simp
  generalize ((w2.alloc (.cells #[.slice none 0 0] 239)).alloc (.cells #[.slice (some ⟨w.heap.size,0,none⟩) 1 1,.map (some (w.heap.size+1)),.slice (some ⟨w2.heap.size,0,none⟩) 1 1,.slice none 0 0] 229)) = w3 at hX hB0 hsx ⊢
  rw [hsx] at hX
  have HS:=Lib.hid (Tryz.strings_Split (bytesOf t) ⟨#[10]⟩ m w3 (by omega) (cell_keep Hm.out hB0) (show 1≤1 by omega))
  obtain ⟨L,HL⟩ : ∃ L,Hid (splitL t = L):=⟨_,rfl⟩
  have hsp:=split_lines (bytesOf t)
  have hc0:=Lib.splitB_all ⟨#[10]⟩ (show 1≤1 by omega) 0 _ (bytesOf t) rfl
  rw [bytesOf_list,HL.out,show bytesOf [10] = ⟨#[10]⟩ from rfl] at hsp
  generalize Lib.splitB ⟨#[10]⟩ 0 (Lib.countB (bytesOf t) ⟨#[10]⟩) (bytesOf t) = SP at HS hsp hc0
  have hcount : Lib.countB (bytesOf t) ⟨#[10]⟩+1 = L.length:=by rw [← hc0,← hsp,List.length_map]
  rw [hcount] at HS
  have HLl:=Lib.hid (fun i l (h : L[i]? = some l)=>line_len (t:=t) (i:=i) (l:=l) (by rw [HL.out];exact h))
  have HLn : Hid (L.length≤65537):=Lib.hid (by rw [← HL.out,splitL_count];have:=List.count_le_length (a:=(10 : UInt8)) (l:=t);omega)
  have HSP : Hid (∀ i l,L[i]? = some l→SP[i]? = some (bytesOf l)):=Lib.hid (fun i l h=>by
   rw [← hsp,List.getElem?_map] at h
   cases hq : SP[i]? with
   | none=>rw [hq] at h;cases h
   | some s=>rw [hq] at h;simp at h;rw [← h,bytesOf_data])
  have HNP : Hid (newP t = linesGo DbP.first L 0):=Lib.hid (by rw [HG.out,HL.out])
  have hX4:=hX.below ((Below.refl _ _).alloc (Nat.le_refl _) (.cells (SP.map Value.string).toArray 9))
  have hB4 : Below w.heap.size w (w3.alloc (.cells (SP.map Value.string).toArray 9)):=hB0.alloc (by have:=hB0.size;omega) _
  have hb4:=Blk.new w3 9 (SP.map Value.string).toArray
  have hx4 : w3.heap.size < (w3.alloc (.cells (SP.map Value.string).toArray 9)).heap.size:=by simp
  refine HS.out.mono ?_
  rintro e w4 ⟨rfl,rfl⟩
  clear hX hB0 HS HG HL hc0 hsp hcount Hm hown2 hg2 hg2s hsx ho0 hmm hkey
  generalize w3.alloc (.cells (SP.map Value.string).toArray 9) = w4 at hX4 hB4 hb4 hx4 ⊢
  generalize w3.heap.size = x at hX4 hb4 hx4 ⊢
  generalize w2.heap.size+1 = p at hX4 ⊢
  have hsw:=hB4.size
  have HCell : Hid (∀ i l,L[i]? = some l→w4.cell? ⟨x,i,none⟩ = some (.string (bytesOf l))):=Lib.hid (fun i l h=>by
   rw [hb4.cell i];have:=HSP.out i l h;simp [this])
  clear hb4 HSP
  go_wp2_with fail
  go_loopw [21] (fun v wr=>∃ (i : Nat) (d : DbP),v = .int .i64 i∧i≤L.length∧DbB wr w.heap.size p x d∧wr.heap[x]? = w4.heap[x]?∧Hid (NewAt L i d)∧Below w.heap.size w wr∧x < wr.heap.size) (fun v _=>L.length - (intOf v).toNat)
  case atStart=>exact ⟨0,DbP.first,rfl,by omega,⟨_,_,_,_,_,_,_,_,_,_,hX4⟩,rfl,newAt_first L,hB4,hx4⟩
  case round =>
   clear hX4
   obtain ⟨i,d,rfl,hi,hd,hxr,HN,hb,hxl⟩:=hrel
   have hszr:=hb.size
   by_cases hlt : i < L.length
   ·obtain ⟨l,Hl⟩ : ∃ l,Hid (L[i]? = some l):=⟨_,Lib.hid (List.getElem?_eq_getElem hlt)⟩
    have hcell : wr.cell? ⟨x,i,none⟩ = some (.string (bytesOf l)):=(World.cell?_of_block hxr).trans (HCell.out i l Hl.out)
    have hll:=HLl.out i l Hl.out
    have hlu:=lineU_len l
    have HW:=Lib.hid (wline_any (bytesOf l) wr (hE.tabs.below (hb.mono (Nat.le_refl _))) (by rw [bytesOf_size];omega))
    rw [bytesOf_list] at HW
    have HN2:=HLn.out
    by_cases hu : lineU l = []
    ·have hem : (bytesOf (lineU l)).toList.isEmpty = true:=by rw [ByteArray.toList_eq,bytesOf_list,hu];rfl
     have HN':=Lib.hid (newAt_next HN.out Hl.out (step_nil hu))
     clear hu
     go_wp2_with (go_at_call 161;refine HW.out.mono ?_;rintro e w5 ⟨rfl,hb5⟩)
     go_roundw
     case rel=>exact ⟨i+1,d,by go_num,by omega,hd.below hb5,(hb5.block x hxl).trans hxr,HN',below_step hb hb5 hszr,Nat.lt_of_lt_of_le hxl hb5.size⟩
     case measure=>simp [intOf];omega
    ·have hem : (bytesOf (lineU l)).toList.isEmpty = false:=by
      rw [ByteArray.toList_eq,bytesOf_list]
      cases hq : lineU l with
      | nil=>exact absurd hq hu
      | cons a b=>rfl
     have HST:=Lib.hid (step_add (d:=d) hu)
     clear hu
     go_wp2_with fail
     refine HW.out.mono ?_
     rintro e w5 ⟨rfl,hb5⟩
     have hb5w:=below_step hb hb5 hszr
     have hx5:=Nat.lt_of_lt_of_le hxl hb5.size
     have hxr5:=(hb5.block x hxl).trans hxr
     have HA:=Lib.hid (wadd_any p w.heap.size x d (lineU l) w5 (hd.below hb5) HN.out.2.2.1 hx5 hb5w.size (hE.tabs.below hb5w) (hE.max.below hb5w) (by omega))
     go_wp2_with fail
     refine HA.out.mono ?_
     rintro e w6 ⟨hk,hae⟩
     have hb6:=hb5w.trans hk.1
     cases hs : addS d (lineU l) with
     | error k =>
      rw [hs] at hae HST
      have he : e = .returned (.int .i64 k):=hae
      subst he
      have hk0 : ((k : Int) != 0) = true:=by rw [bne_iff_ne];have:=addS_err hs;omega
      have HE:=Lib.hid (HNP.out.trans (newAt_err HN.out Hl.out HST.out))
      clear hs hae
      go_wp2
      go_ret3
      exact ⟨NewEnd.err HE.out,hb6⟩
     | ok d' =>
      rw [hs] at hae HST
      obtain ⟨rfl,hd'⟩:=hae
      have HN':=Lib.hid (newAt_next HN.out Hl.out HST.out)
      clear hs
      go_wp2
      go_roundw
      case rel=>exact ⟨i+1,d',by go_num,by omega,hd',(hk.2 hx5).trans hxr5,HN',hb6,Nat.lt_of_lt_of_le hx5 hk.1.size⟩
      case measure=>simp [intOf];omega
   ·have HE:=Lib.hid (HNP.out.trans (newAt_end HN.out hlt))
    have HC:=Lib.hid (wclose_any p w.heap.size x d wr hd HN.out.2.2.1 HN.out.2.2.2 hszr)
    go_wp2_with (go_at_call 163;refine HC.out.mono ?_;rintro e w5 ⟨rfl,hda,hb5⟩)
    go_ret3
    exact ⟨NewEnd.fine HE.out hda,hb.trans hb5⟩
end
section
open Go.ChangeShapes Go.WideShapes Go.ChangeAt Go.RowKit Go.Lib Go.Shelf
theorem ownK : ownKnob Tryz.prog.godebug = none:=by kernel_rfl
theorem accept_eq : (Rows.laid_unicode_utf8_acceptRanges : DataW Unit) = acceptData:=by kernel_rfl
theorem tabs_of_laid {W : World} (hL : laidMetH Tryz.prog Rows.placesBackRow.laid W) : Tabs W:=by
 have h1:=laidMet.reads hL (.tail _ (.tail _ (.tail _ (.tail _ (.tail _ (.tail _ (.head _)))))))
 have h2:=laidMet.reads hL (.tail _ (.tail _ (.tail _ (.head _))))
 rw [show (Rows.laid_unicode_utf8_first : DataW Unit) = firstData from Pinned.utf8First_eq] at h1
 rw [accept_eq] at h2
 exact utf8Tabs_of_reads (ρ:=Tryz.lays260_ren) { Tryz.lays260 with } ⟨by kernel_rfl,by kernel_rfl,by kernel_rfl,by kernel_rfl,by kernel_rfl,by kernel_rfl,by kernel_rfl⟩ h1 h2
def deB64 : List Int:=[0,1,56,2,57,49,28,3,61,58,42,50,38,29,17,4,62,47,59,36,45,43,51,22,53,39,33,30,24,18,12,5,63,55,48,27,60,41,37,16,46,35,44,21,52,32,23,11,54,26,40,15,34,20,31,10,25,14,19,9,13,8,7,6]
theorem tabB_of_laid {W : World} (hL : laidMetH Tryz.prog Rows.placesBackRow.laid W) : TabB W:=by
 have h:=laidMet.reads hL (.tail _ (.head _))
 rw [show (Rows.laid_math_bits_deBruijn64tab : DataW Unit) = tabData .u8 deB64 by kernel_rfl] at h
 obtain ⟨g,t,cs,fuel,p,hg,hty,hvar,hd⟩:=h
 obtain rfl := Option.some.inj ((show Tryz.prog.globalNamed "math/bits.deBruijn64tab" = some 7 by kernel_rfl).symm.trans hg)
 obtain rfl:=Option.some.inj ((show (Tryz.prog.globals[(7 : Nat)]?).map (·.type) = some 393 by kernel_rfl).symm.trans hty)
 have hcs:=cells_of_tab Tryz.underlying393 Tryz.underlying5 (by kernel_rfl) (by kernel_rfl) hd
 have:=World.var?_cell hg hvar 15
 unfold TabB
 rw [this,← Array.getElem?_toList,hcs];rfl
theorem env_of_laid {W : World} (hL : laidMetH Tryz.prog Rows.placesBackRow.laid W) (hS : W.ShapedOpen Tryz.prog) : Env W :=
 ⟨tabs_of_laid hL,cell_of_shapedOpen_int hS (g:=0) (t:=3) (zero:=#[.int .i64 0]) (of_decide_eq_true (by kernel_rfl)) (by kernel_rfl) rfl (by kernel_rfl) (by kernel_rfl) Tryz.underlying3,tabB_of_laid hL⟩
noncomputable def laidWorld (os : Os) : World :=
 let N:=(World.settled Tryz.prog os).heap.size
 let w0:=World.holding Tryz.prog os ⟨#[.cells #[.string ⟨#[118,97,108,117,101,32,111,117,116,32,111,102,32,114,97,110,103,101]⟩] 383,.cells #[.string ⟨#[105,110,118,97,108,105,100,32,115,121,110,116,97,120]⟩] 383],#[],[]⟩
 let put (h : Array Obj) (g : Nat) (cs : Array Value) : Array Obj:=h.modify g fun
  | .cells _ t frozen=>.cells cs t frozen
  | o=>o
 let h1:=put w0.heap 1 (firstTab.map fun z=>Value.int .u8 z).toArray
 let h2:=put h1 2 ((List.range 16).flatMap fun i=>[Value.int .u8 (accLo i),Value.int .u8 (accHi i)]).toArray
 let h3:=put h2 3 #[.iface 381 (.pointer (some ⟨N+1,0,none⟩))]
 let h4:=put h3 4 #[.iface 381 (.pointer (some ⟨N,0,none⟩))]
 let h5:=put h4 5 ((List.range 20).map fun i=>Value.int .u64 (10 ^ i : Nat)).toArray
 let h6:=put h5 6 ([0,1,28,2,29,14,24,3,30,22,20,15,25,17,4,8,31,27,13,23,21,19,16,7,26,12,18,6,11,5,10,9].map fun (z : Int)=>Value.int .u8 z).toArray
 let h7:=put h6 7 ([0,1,56,2,57,49,28,3,61,58,42,50,38,29,17,4,62,47,59,36,45,43,51,22,53,39,33,30,24,18,12,5,63,55,48,27,60,41,37,16,46,35,44,21,52,32,23,11,54,26,40,15,34,20,31,10,25,14,19,9,13,8,7,6].map fun (z : Int)=>Value.int .u8 z).toArray
 { w0 with heap:=h7 }
theorem laid_in (os : Os) (args : Array Value) : LaidIn Tryz.prog ((laidWorld os).forCall (fun _ _=>0) ⟨#[],args,[]⟩).memory Rows.placesBackRow.laid [1,2,3,4,5,6,7,(World.settled Tryz.prog default).heap.size,(World.settled Tryz.prog default).heap.size+1] :=
 LaidIn.of_run [1,2,3,4,5,6,7,(World.settled Tryz.prog default).heap.size,(World.settled Tryz.prog default).heap.size+1] 8 (by kernel_rfl) (by kernel_rfl) (by kernel_rfl) (by kernel_rfl)
end
section
open Go.RowKit Go.Maps
end
section
open Go.RowKit Go.Maps
end
section
open Go.RowKit Go.Maps
end
section
open Go.RowKit Go.Maps
end
section
open Go.RowKit Go.Maps
section
variable {w w' : World} {base p x : Nat} {An : Option Addr} {nn cn : Nat} {As : Option Addr} {ns cs : Nat} {xs : List (Option Addr × Nat × Nat)} {N : List (List UInt8)} {S : List (List (Int × Int))}
end
end
section
open Go.RowKit
end
section
open Go.RowKit
end
section
open Go.RowKit
end
section
open Go.RowKit
end
section
open Go.RowKit
end
section
open Go.RowKit
end
section
open Go.RowKit
end
section
open Go.RowKit
end
section
open Go.RowKit
end
section
open Go.RowKit
end
section
open Go.RowKit Go.Maps
end
section
open Go.RowKit Go.Maps
end
section
open Go.RowKit Go.Maps
end
section
open Go.RowKit
end
section
open Go.RowKit Go.Maps
end
section
open Go.RowKit Go.Maps
end
section
open Go.RowKit Go.Maps
end
section
open Go.RowKit
end
section
open Go.RowKit Go.Maps
end
section
open Go.RowKit Go.Maps
end
section
open Go.RowKit Go.Maps
end
section
open Go.RowKit Go.Maps
end
section
open Go.RowKit
end
section
open Go.RowKit
theorem gS_lt (r : Int) : gS r < 14:=get_lt sentsOk.1 r
def boundsS (s : ByteArray) : List Nat:=boundsX (fun c i=>sCuts (toI c) i) gS s
end
section
open Go.RowKit
theorem gdb_any (w : World) (hE : Env w) :
  Calls Tryz.prog 112 #[] w fun e w'=>∃ p,e = .returned (.pointer (some ⟨p,0,none⟩))∧DbAt w' p graphsD∧Below w.heap.size w w':=by
 go_enter Tryz.func112,Tryz.ntmps112
 generalize hT : ByteArray.mk _ = T
 have HN : newP T.data.toList = .ok graphsD:=by rw [← hT];exact new_K (by kernel_rfl) (by kernel_rfl)
 have hTl : T.data.toList.length≤maxLen:=by rw [← hT];exact of_decide_eq_true (by kernel_rfl)
 clear hT
 have HC:=wNew_any T.data.toList w hE hTl
 rw [HN,show bytesOf T.data.toList = T from bytesOf_data T] at HC
 replace HC:=Lib.hid HC
 clear HN hTl
 go_wp2_with fail
 refine HC.out.mono ?_
 rintro e w1 ⟨⟨p,rfl,hd⟩,hb1⟩
 go_wp2
 go_ret
 exact ⟨p,rfl,hd,hb1⟩
def endZ (c : Int) : Bool:=c == 1 || c == 2 || c == 3
theorem gends_any (c : Int) (w : World) : Calls Tryz.prog 135 #[.int .i64 c] w fun e w'=>e = .returned (.bool (endZ c))∧w = w':=by
 rcases (by omega : c = 1∨c = 2∨c = 3∨(c ≠ 1∧c ≠ 2∧c ≠ 3)) with rfl | rfl | rfl | ⟨h1,h2,h3⟩
 iterate 3
  ·go_enter Tryz.func135,Tryz.ntmps135
   go_wp2
   go_ret
   exact ⟨rfl,rfl⟩
 ·have HV : Hid (endZ c = false):=Lib.hid (by simp [endZ,h1,h2,h3])
  have e1:=beq_eq_false_iff_ne.2 h1
  have e2:=beq_eq_false_iff_ne.2 h2
  have e3:=beq_eq_false_iff_ne.2 h3
  clear h1 h2 h3
  go_enter Tryz.func135,Tryz.ntmps135
  go_wp2
  go_ret
  exact ⟨by rw [HV.out];rfl,rfl⟩
def joinZ (x y : Int) : Bool :=
 if (x == 1) && (y == 2) then true
 else if endZ x || endZ y then false
 else if ((y == 4) || (y == 5) || (y == 6) || (x == 7)) then true
 else if x == 8 then (y == 8) || (y == 9) || (y == 11)
 else if (x == 9) || (x == 11) then (y == 9) || (y == 10)
 else (x == 10) && (y == 10)
theorem joinZ_eq : ∀ x : Nat,x < 14→∀ y : Nat,y < 14→joinZ (x : Int) (y : Int) = joinG x y:=by decide
theorem gjoins_any (x y : Int) (w : World) : Calls Tryz.prog 114 #[.int .i64 x,.int .i64 y] w fun e w'=>e = .returned (.bool (joinZ x y))∧w = w':=by
 obtain ⟨x1,H1⟩ : ∃ b,Hid (((x == 1) && (y == 2)) = b):=⟨_,Lib.hid rfl⟩
 obtain ⟨x2,H2⟩ : ∃ b,Hid (((endZ x) || (endZ y)) = b):=⟨_,Lib.hid rfl⟩
 obtain ⟨x3,H3⟩ : ∃ b,Hid (((y == 4) || (y == 5) || (y == 6) || (x == 7)) = b):=⟨_,Lib.hid rfl⟩
 have HW : Hid (joinZ x y = if x1 then true else if x2 then false else if x3 then true else if x == 8 then ((y == 8) || (y == 9) || (y == 11)) else if ((x == 9) || (x == 11)) then ((y == 9) || (y == 10)) else ((x == 10) && (y == 10))):=Lib.hid (by rw [← H1.out,← H2.out,← H3.out];rfl)
 go_enter Tryz.func114,Tryz.ntmps114
 go_upto_region 1 with fail
 go_cut [5] from 5 (fun v wx=>v = .bool x1∧w = wx)
 case first =>
  cases h1 : (x == 1) with
  | true =>
   cases h2 : (y == 2) with
   | true =>
    go_wp2_with fail
    go_meet
    exact ⟨by rw [← H1.out,h1,h2] <;> rfl,rfl⟩
   | false =>
    go_wp2_with fail
    go_meet
    exact ⟨by rw [← H1.out,h1,h2] <;> rfl,rfl⟩
  | false =>
   go_wp2_with fail
   go_meet
   exact ⟨by rw [← H1.out,h1] <;> rfl,rfl⟩
 case rest =>
  obtain ⟨rfl,rfl⟩:=hcut
  cases x1 with
  | true =>
   go_wp2
   go_ret
   exact ⟨by rw [HW.out];simp,rfl⟩
  | false =>
   go_upto_region 3 with fail
   go_cut [12] from 5 (fun v wx=>v = .bool x2∧w = wx)
   case first =>
    cases h1 : (endZ x) with
    | true =>
     go_wp2_with fail
     refine (gends_any _ _).mono ?_
     rw [h1]
     rintro e wn ⟨rfl,rfl⟩
     go_wp2_with fail
     go_meet
     exact ⟨by rw [← H2.out,h1] <;> rfl,rfl⟩
    | false =>
     cases h2 : (endZ y) with
     | true =>
      go_wp2_with fail
      refine (gends_any _ _).mono ?_
      rw [h1]
      rintro e wn ⟨rfl,rfl⟩
      go_wp2_with fail
      refine (gends_any _ _).mono ?_
      rw [h2]
      rintro e wn ⟨rfl,rfl⟩
      go_wp2_with fail
      go_meet
      exact ⟨by rw [← H2.out,h1,h2] <;> rfl,rfl⟩
     | false =>
      go_wp2_with fail
      refine (gends_any _ _).mono ?_
      rw [h1]
      rintro e wn ⟨rfl,rfl⟩
      go_wp2_with fail
      refine (gends_any _ _).mono ?_
      rw [h2]
      rintro e wn ⟨rfl,rfl⟩
      go_wp2_with fail
      go_meet
      exact ⟨by rw [← H2.out,h1,h2] <;> rfl,rfl⟩
   case rest =>
    obtain ⟨rfl,rfl⟩:=hcut
    cases x2 with
    | true =>
     go_wp2
     go_ret
     exact ⟨by rw [HW.out];simp,rfl⟩
    | false =>
     go_upto_region 5 with fail
     go_cut [19] from 5 (fun v wx=>v = .bool x3∧w = wx)
     case first =>
      cases h1 : (y == 4) with
      | true =>
       go_wp2_with fail
       go_meet
       exact ⟨by rw [← H3.out,h1] <;> rfl,rfl⟩
      | false =>
       cases h2 : (y == 5) with
       | true =>
        go_wp2_with fail
        go_meet
        exact ⟨by rw [← H3.out,h1,h2] <;> rfl,rfl⟩
       | false =>
        cases h3 : (y == 6) with
        | true =>
         go_wp2_with fail
         go_meet
         exact ⟨by rw [← H3.out,h1,h2,h3] <;> rfl,rfl⟩
        | false =>
         cases h4 : (x == 7) with
         | true =>
          go_wp2_with fail
          go_meet
          exact ⟨by rw [← H3.out,h1,h2,h3,h4] <;> rfl,rfl⟩
         | false =>
          go_wp2_with fail
          go_meet
          exact ⟨by rw [← H3.out,h1,h2,h3,h4] <;> rfl,rfl⟩
     case rest =>
      obtain ⟨rfl,rfl⟩:=hcut
      cases x3 with
      | true =>
       go_wp2
       go_ret
       exact ⟨by rw [HW.out];simp,rfl⟩
      | false =>
       cases h1 : (x == 8) with
       | true =>
        cases h2 : (y == 8) with
        | true =>
         go_wp2
         go_ret
         exact ⟨by rw [HW.out];simp [h1,h2],rfl⟩
        | false =>
         cases h3 : (y == 9) with
         | true =>
          go_wp2
          go_ret
          exact ⟨by rw [HW.out];simp [h1,h2,h3],rfl⟩
         | false =>
          cases h4 : (y == 11) with
          | true =>
           go_wp2
           go_ret
           exact ⟨by rw [HW.out];simp [h1,h2,h3,h4],rfl⟩
          | false =>
           go_wp2
           go_ret
           exact ⟨by rw [HW.out];simp [h1,h2,h3,h4],rfl⟩
       | false =>
        cases h2 : (x == 9) with
        | true =>
         cases h3 : (y == 9) with
         | true =>
          go_wp2
          go_ret
          exact ⟨by rw [HW.out];simp [h1,h2,h3],rfl⟩
         | false =>
          cases h4 : (y == 10) with
          | true =>
           go_wp2
           go_ret
           exact ⟨by rw [HW.out];simp [h1,h2,h3,h4],rfl⟩
          | false =>
           go_wp2
           go_ret
           exact ⟨by rw [HW.out];simp [h1,h2,h3,h4],rfl⟩
        | false =>
         cases h3 : (x == 11) with
         | true =>
          cases h4 : (y == 9) with
          | true =>
           go_wp2
           go_ret
           exact ⟨by rw [HW.out];simp [h1,h2,h3,h4],rfl⟩
          | false =>
           cases h5 : (y == 10) with
           | true =>
            go_wp2
            go_ret
            exact ⟨by rw [HW.out];simp [h1,h2,h3,h4,h5],rfl⟩
           | false =>
            go_wp2
            go_ret
            exact ⟨by rw [HW.out];simp [h1,h2,h3,h4,h5],rfl⟩
         | false =>
          cases h4 : (x == 10) with
          | true =>
           cases h5 : (y == 10) with
           | true =>
            go_wp2
            go_ret
            exact ⟨by rw [HW.out];simp [h1,h2,h3,h4,h5],rfl⟩
           | false =>
            go_wp2
            go_ret
            exact ⟨by rw [HW.out];simp [h1,h2,h3,h4,h5],rfl⟩
          | false =>
           go_wp2
           go_ret
           exact ⟨by rw [HW.out];simp [h1,h2,h3,h4],rfl⟩
end
section
open Go.RowKit
theorem Rd.atP {w : World} {A : Option Addr} {l : List Nat} {k : Nat} {x : Nat} (h : Rd w 1 A (l.map encN)) (hk : l[k]? = some x) : ∃ b off,A = some ⟨b,off,none⟩∧w.cell? ⟨b,off+k,none⟩ = some (.int .i64 (x : Nat)):=by
 obtain ⟨b,off,rfl,hc⟩:=h (by intro e;cases l with | nil=>simp at hk | cons _ _=>simp at e)
 have h0:=hc k 0 (encN x) (.int .i64 (x : Nat)) (by simp [hk]) rfl
 exact ⟨b,off,rfl,by simpa using h0⟩
def ScAt (g : Int→Nat) (s : ByteArray) (f q : Nat) (P : List Nat) (C : List Int) : Prop :=
 P++(runesGo s f q).map (·.2.1) = (runesP s).map (·.2.1)∧C++(runesGo s f q).map (fun x=>(g x.1 : Int)) = wCls g s∧s.size≤q+f∧q≤s.size
theorem scAt_first (g : Int→Nat) (s : ByteArray) : ScAt g s s.size 0 [] []:=⟨rfl,rfl,by omega,by omega⟩
theorem scAt_add {g : Int→Nat} {s : ByteArray} {f q R W : Nat} {P : List Nat} {C : List Int} (h : ScAt g s f q P C) (hp : q < s.size) (hd : Utf8.decode s q = (R,W)) (hw : 1≤W∧q+W≤s.size) :
  ∃ f',ScAt g s f' (q+W) (P++[q]) (C++[(g R : Int)]):=by
 obtain ⟨f',rfl,hg⟩:=runesGo_step (s:=s) (f:=f) hp h.2.2.1
 rw [hd] at hg
 refine ⟨f',?_,?_,by have:=h.2.2.1;omega,hw.2⟩
 ·rw [← h.1,hg];simp
 ·rw [← h.2.1,hg];simp
theorem scAt_end {g : Int→Nat} {s : ByteArray} {f q : Nat} {P : List Nat} {C : List Int} (h : ScAt g s f q P C) (hp : ¬ q < s.size) : P = (runesP s).map (·.2.1)∧C = wCls g s:=by
 have h1:=h.1
 have h2:=h.2.1
 rw [runesGo_end (by omega)] at h1 h2
 exact ⟨by simpa using h1,by simpa using h2⟩
structure ScM (w : World) (t : TypeId) (B base bt bi : Nat) (s : ByteArray) (q : Nat) (tl : List Value) (A1 : Option Addr) (n1 c1 : Nat) (A2 : Option Addr) (n2 c2 : Nat) (P : List Nat) (C : List Int) : Prop where
 blk : Blk w bt t (Value.slice A1 n1 c1 :: Value.slice A2 n2 c2 :: tl).toArray
 it : w.heap[bi]? = some (.stringIter s q)
 o1 : Own w base 3 1 A1 n1 c1 (P.map encN)
 o2 : Own w base 3 1 A2 n2 c2 (C.map encZ)
 ne : ∀ a b,A1 = some a→A2 = some b→a.block ≠ b.block
 lt : B≤bt∧bt < base∧B≤bi∧bi < base∧bt ≠ bi∧base≤w.heap.size
section
variable {w w' : World} {t : TypeId} {B base bt bi : Nat} {s : ByteArray} {q : Nat} {tl : List Value} {A1 : Option Addr} {n1 c1 : Nat} {A2 : Option Addr} {n2 c2 : Nat} {P : List Nat} {C : List Int}
theorem ScM.below (h : ScM w t B base bt bi s q tl A1 n1 c1 A2 n2 c2 P C) (hb : Below w.heap.size w w') : ScM w' t B base bt bi s q tl A1 n1 c1 A2 n2 c2 P C :=
 ⟨h.blk.below hb,(hb.block _ (Array.getElem?_eq_some_iff.1 h.it).1).trans h.it,h.o1.below hb,h.o2.below hb,h.ne,⟨h.lt.1,h.lt.2.1,h.lt.2.2.1,h.lt.2.2.2.1,h.lt.2.2.2.2.1,Nat.le_trans h.lt.2.2.2.2.2 hb.size⟩⟩
theorem ScM.iterAt (h : ScM w t B base bt bi s q tl A1 n1 c1 A2 n2 c2 P C) (k : Nat) : ScM (w.iterAt bi s k) t B base bt bi s k tl A1 n1 c1 A2 n2 c2 P C:=by
 have hl:=h.lt
 have hsame : ∀ b,b ≠ bi→(w.iterAt bi s k).heap[b]? = w.heap[b]?:=fun b hne=>Lib.iterAt_other w bi b s k hne
 refine ⟨(hsame bt hl.2.2.2.2.1).trans h.blk,Lib.iterAt_heap w bi s q k h.it,h.o1.keep fun a ha=>hsame _ ?_,h.o2.keep fun a ha=>hsame _ ?_,h.ne,?_⟩
 ·have:=(h.o1.lt a ha).1;omega
 ·have:=(h.o2.lt a ha).1;omega
 ·rw [Lib.iterAt_size];exact hl
theorem ScM.more1 (h : ScM w t B base bt bi s q tl A1 n1 c1 A2 n2 c2 P C) {o : Obj} {x : Nat} {A3 : Option Addr} {c3 : Nat} {w3 : World} (ho : Own w3 base 3 1 A3 (n1+1) c3 ((P++[x]).map encN)) (hg : (w.alloc o).grownBy w3 (A1.map (·.block))) (hA : A3 = A1∨A3 = some ⟨(w.alloc o).heap.size,0,none⟩) :
  Blk w3 bt t (Value.slice A1 n1 c1 :: Value.slice A2 n2 c2 :: tl).toArray∧ScM (w3.setCell ⟨bt,0,none⟩ (.slice A3 (n1+1) c3)) t B base bt bi s q tl A3 (n1+1) c3 A2 n2 c2 (P++[x]) C∧(∀ (V : World),Below B V w→Below B V (w3.setCell ⟨bt,0,none⟩ (.slice A3 (n1+1) c3))):=by
 have hl:=h.lt
 have hz : (w.alloc o).heap.size = w.heap.size+1:=by simp
 have hne : ∀ b,b < base→some b ≠ A1.map (·.block):=fun b hb e=>by
  cases A1 with
  | none=>cases e
  | some a=>have:=(h.o1.lt a rfl).1;simp at e;omega
 have hsame : ∀ b,b < w.heap.size→some b ≠ A1.map (·.block)→w3.heap[b]? = w.heap[b]?:=fun b hb e=>(hg.block b (by omega) e).trans (Below.heap_alloc w o b hb)
 have hk : Blk w3 bt t (Value.slice A1 n1 c1 :: Value.slice A2 n2 c2 :: tl).toArray:=(hsame bt h.blk.lt (hne bt hl.2.1)).trans h.blk
 have hset : ∀ b,b ≠ bt→(w3.setCell ⟨bt,0,none⟩ (.slice A3 (n1+1) c3)).heap[b]? = w3.heap[b]?:=fun b hb=>Below.heap_setCell w3 ⟨bt,0,none⟩ _ b hb
 refine ⟨hk,⟨by have:=hk.set_ 0 (.slice A3 (n1+1) c3);simpa using this,(hset bi (Ne.symm hl.2.2.2.2.1)).trans ((hsame bi (Array.getElem?_eq_some_iff.1 h.it).1 (hne bi hl.2.2.2.1)).trans h.it),ho.keep fun a ha=>hset _ ?_,(h.o2.keep (w':=w3) fun a ha=>hsame _ (h.o2.lt a ha).2 ?_).keep fun a ha=>hset _ ?_,?_,?_⟩,fun V hV=>?_⟩
 ·have:=(ho.lt a ha).1;omega
 ·intro e
  cases A1 with
  | none=>cases e
  | some b=>simp at e;exact h.ne b a rfl ha e.symm
 ·have:=(h.o2.lt a ha).1;omega
 ·intro a b ha hb
  rcases hA with e | e
  ·exact h.ne a b (by rw [← e];exact ha) hb
  ·rw [e] at ha;injection ha with ha;subst ha
   have:=(h.o2.lt b hb).2
   simp only;omega
 ·have:=hg.size
  simp [World.setCell];omega
 ·refine (below_app (hV.alloc (by have:=hl;omega) o) hg (by have:=hl;omega) (fun a ha=>by have:=(h.o1.lt a ha).1;omega)).setCell (p:=⟨bt,0,none⟩) hl.1 _
theorem ScM.more2 (h : ScM w t B base bt bi s q tl A1 n1 c1 A2 n2 c2 P C) {o : Obj} {x : Int} {A3 : Option Addr} {c3 : Nat} {w3 : World} (ho : Own w3 base 3 1 A3 (n2+1) c3 ((C++[x]).map encZ)) (hg : (w.alloc o).grownBy w3 (A2.map (·.block))) (hA : A3 = A2∨A3 = some ⟨(w.alloc o).heap.size,0,none⟩) :
  Blk w3 bt t (Value.slice A1 n1 c1 :: Value.slice A2 n2 c2 :: tl).toArray∧ScM (w3.setCell ⟨bt,1,none⟩ (.slice A3 (n2+1) c3)) t B base bt bi s q tl A1 n1 c1 A3 (n2+1) c3 P (C++[x])∧(∀ (V : World),Below B V w→Below B V (w3.setCell ⟨bt,1,none⟩ (.slice A3 (n2+1) c3))):=by
 have hl:=h.lt
 have hz : (w.alloc o).heap.size = w.heap.size+1:=by simp
 have hne : ∀ b,b < base→some b ≠ A2.map (·.block):=fun b hb e=>by
  cases A2 with
  | none=>cases e
  | some a=>have:=(h.o2.lt a rfl).1;simp at e;omega
 have hsame : ∀ b,b < w.heap.size→some b ≠ A2.map (·.block)→w3.heap[b]? = w.heap[b]?:=fun b hb e=>(hg.block b (by omega) e).trans (Below.heap_alloc w o b hb)
 have hk : Blk w3 bt t (Value.slice A1 n1 c1 :: Value.slice A2 n2 c2 :: tl).toArray:=(hsame bt h.blk.lt (hne bt hl.2.1)).trans h.blk
 have hset : ∀ b,b ≠ bt→(w3.setCell ⟨bt,1,none⟩ (.slice A3 (n2+1) c3)).heap[b]? = w3.heap[b]?:=fun b hb=>Below.heap_setCell w3 ⟨bt,1,none⟩ _ b hb
 refine ⟨hk,⟨by have:=hk.set_ 1 (.slice A3 (n2+1) c3);simpa using this,(hset bi (Ne.symm hl.2.2.2.2.1)).trans ((hsame bi (Array.getElem?_eq_some_iff.1 h.it).1 (hne bi hl.2.2.2.1)).trans h.it),(h.o1.keep (w':=w3) fun a ha=>hsame _ (h.o1.lt a ha).2 ?_).keep fun a ha=>hset _ ?_,ho.keep fun a ha=>hset _ ?_,?_,?_⟩,fun V hV=>?_⟩
 ·intro e
  cases A2 with
  | none=>cases e
  | some b=>simp at e;exact h.ne a b ha rfl e
 ·have:=(h.o1.lt a ha).1;omega
 ·have:=(ho.lt a ha).1;omega
 ·intro a b ha hb
  rcases hA with e | e
  ·exact h.ne a b ha (by rw [← e];exact hb)
  ·rw [e] at hb;injection hb with hb;subst hb
   have:=(h.o1.lt a ha).2
   simp only;omega
 ·have:=hg.size
  simp [World.setCell];omega
 ·refine (below_app (hV.alloc (by have:=hl;omega) o) hg (by have:=hl;omega) (fun a ha=>by have:=(h.o2.lt a ha).1;omega)).setCell (p:=⟨bt,1,none⟩) hl.1 _
end
theorem res_scan (w : World) (b : Nat) (tmps : Array Value) (ht : tmps.getD 2 undef = .pointer (some ⟨b,0,none⟩)) {A1 A2 : Option Addr} {n1 c1 n2 c2 : Nat} {z : Int} (h : Blk w b 165 #[.slice A1 n1 c1,.slice A2 n2 c2,.int .i64 z]) :
  (results Tryz.f115 tmps).run Tryz.prog w = .ok (.agg #[.slice A1 n1 c1,.slice A2 n2 c2,.int .i64 z]) w:=by
 have ht' : tmps[2]?.getD undef = .pointer (some ⟨b,0,none⟩):=by simpa [Array.getD_eq_getD_getElem?] using ht
 have h0:=h.cell 0
 have h1:=h.cell 1
 have h2:=h.cell 2
 simp only [zG,zH,zI] at h0 h1 h2
 simp [results,Tryz.results115,go_sem,ht',h0,h1,h2]
theorem kscan_any (s : ByteArray) (w : World) (hE : Env w) (hs : s.size≤1000000) :
  Calls Tryz.prog 115 #[.string s] w fun e w'=>∃ A1 n1 c1 A2 n2 c2,e = .returned (.agg #[.slice A1 n1 c1,.slice A2 n2 c2,.int .i64 s.size])∧Own w' w.heap.size 3 1 A1 n1 c1 (((runesP s).map (·.2.1)).map encN) ∧
   Own w' w.heap.size 3 1 A2 n2 c2 ((wCls gW s).map encZ)∧Below w.heap.size w w':=by
 obtain ⟨i0,hi0,hz0,hz1,hz2⟩:=info_parts infoInt
 have hB0 : Below w.heap.size w (w.alloc (.cells #[.slice none 0 0,.slice none 0 0,.int .i64 0] 165)):=(Below.refl _ _).alloc (Nat.le_refl _) _
 have hR0:=Blk.new w 165 #[.slice none 0 0,.slice none 0 0,.int .i64 0]
 have hE0:=hE.below hB0
 go_enter Tryz.func115,Tryz.ntmps115
 generalize hT : ByteArray.mk _ = T
 have HN : newP T.data.toList = .ok wordD:=by rw [← hT];exact new_K (by kernel_rfl) (by kernel_rfl)
 have hTl : T.data.toList.length≤maxLen:=by rw [← hT];exact of_decide_eq_true (by kernel_rfl)
 clear hT
 have HC:=wNew_any T.data.toList _ hE0 hTl
 rw [HN,bytes_is] at HC
 replace HC:=Lib.hid HC
 clear HN hTl
 go_wp2_with fail
 refine HC.out.mono ?_
 rintro e w1 ⟨⟨p,rfl,hd⟩,hb1⟩
 clear HC
 have hR1:=hR0.below hb1
 have hB1 : Below w.heap.size w w1:=hB0.trans (hb1.mono (by simp))
 have hsz1 : w.heap.size < w1.heap.size:=hR1.lt
 clear hR0 hB0 hE0 hb1
 have hM0 : ScM ((w1.alloc (.cells #[.slice none 0 0,.slice none 0 0,.int .i64 s.size] 165)).iter s 0) 165 w1.heap.size (w1.heap.size+2) w1.heap.size (w1.heap.size+1) s 0 [.int .i64 s.size] none 0 0 none 0 0 [] [] :=
  ⟨(Blk.new w1 _ _).alloc _,(by have:=iter_new (w1.alloc (.cells #[.slice none 0 0,.slice none 0 0,.int .i64 s.size] 165)) s 0;simpa using this),Own.nil_ _ _ _ _,Own.nil_ _ _ _ _,fun _ _ h=>(by cases h),(by unfold World.iter;simp)⟩
 have hB2 : Below w1.heap.size w1 ((w1.alloc (.cells #[.slice none 0 0,.slice none 0 0,.int .i64 s.size] 165)).iter s 0):=below_iter ((Below.refl _ _).alloc (Nat.le_refl _) _) (by simp) _ _
 have HA0:=Lib.hid (scAt_first gW s)
 have HD:=Lib.hid hd
 clear hd hE
 go_wp2_with fail
 go_loopw [7] (fun _ wr=>∃ (q f : Nat) (A1 : Option Addr) (n1 c1 : Nat) (A2 : Option Addr) (n2 c2 : Nat) (P : List Nat) (C : List Int),ScM wr 165 w1.heap.size (w1.heap.size+2) w1.heap.size (w1.heap.size+1) s q [.int .i64 s.size] A1 n1 c1 A2 n2 c2 P C ∧
   n1≤q∧n2≤q∧q≤s.size∧Hid (ScAt gW s f q P C)∧Below w1.heap.size w1 wr) (fun _ wr=>s.size - wr.iterPos (w1.heap.size+1))
 case atStart=>exact ⟨0,s.size,none,0,0,none,0,0,[],[],hM0,by omega,by omega,by omega,HA0,hB2⟩
 case round =>
  clear hM0 hB2 HA0
  obtain ⟨q,f,A1,n1,c1,A2,n2,c2,P,C,hM,hn1,hn2,hq,HA,hb⟩:=hrel
  have hit:=hM.it
  have Hpos:=Lib.hid (iterPos_of hit)
  by_cases hp : q < s.size
  ·obtain ⟨⟨R,W⟩,HDc⟩ : ∃ d,Utf8.decode s q = d:=⟨_,rfl⟩
   have hd:=dec_bd s q hp
   have hnx : ∀ ty,(Instr.next (.pointer (some ⟨w1.heap.size+1,0,none⟩)) true ty).run Tryz.prog wr = _:=fun ty=>Lib.run_next_any_at wr (w1.heap.size+1) s q ty hit hp
   have hM2:=hM.iterAt (q+(Utf8.decode s q).2)
   have hb2:=Lib.below_iterAt hb (k:=w1.heap.size+1) (by omega) s (q+(Utf8.decode s q).2)
   rw [HDc] at hd hnx hM2 hb2
   simp only at hd hnx hM2 hb2
   obtain ⟨g,HA'⟩:=scAt_add HA.out hp HDc (by omega)
   have HA':=Lib.hid HA'
   clear HA HDc hM hb hit
   generalize wr.iterAt (w1.heap.size+1) s (q+W) = w2 at hnx hM2 hb2
   have k0:=hM2.blk.cell 0
   simp only [zG,zH] at k0
   have hsz2:=hM2.lt.2.2.2.2.2
   go_upto_region 7 with (at_builtin;go_must (refine wpList_app rfl (.tmp 24) (.tmp 26) _ rfl (w1.heap.size+2) 3 i0 _ 1 8 Tryz.underlying65 hi0 hz0 hz1 hz2 rfl (by omega) A1 n1 c1 (P.map encN) rfl (hM2.o1.alloc _) _ 1 1 [encN q] rfl rfl (Rd.newAt (by simp) rfl) (encN_ok [q]) (by unfold maxLen;omega) (by omega) (by simp;omega) ?_);intro A3 c3 w3 ho3 hg3 hA3;have HM:=hM2.more1 (x:=q) (by rw [List.map_append];exact ho3) hg3 hA3;have k3:=HM.1.cell 0;have f3:=HM.1.frozen 0;simp only [zG,zH] at k3)
   have hM5:=HM.2.1
   have hb5:=HM.2.2 _ hb2
   clear HM k3 f3 hg3 ho3 hA3 hM2 hb2 hnx k0
   generalize w3.setCell ⟨w1.heap.size,0,none⟩ (.slice A3 (n1+1) c3) = w5 at hM5 hb5 ⊢
   have k5:=hM5.blk.cell 1
   simp only [zG,zH,zI] at k5
   have HG:=Lib.hid (wGet_any p wordD R w5.drew ((HD.out.below hb5).drewN 1) wordOk.1 wordOk.2.1)
   have hsz5:=hM5.lt.2.2.2.2.2
   go_wp2_with fail
   refine wp_region_last (S:=fun V=>V.cell? ⟨w1.heap.size,1,none⟩ = some (.slice A2 n2 c2)) 8 rfl (by kernel_rfl) (by kernel_rfl) (by kernel_rfl) k5 (fun hHeld=>?_)
   simp only [List.dropLast_cons_cons,List.dropLast_singleton]
   refine tkH (i:=0) (v:=?_) rfl ?_ ?_;rotate_left;focus ((intro w hSw;(try dsimp only at hSw);go_simp);try with_reducible rfl)
   (try simp only [Act.put,zA,zC,zD,zE,zF])
   refine tkH (i:=1) (v:=?_) rfl ?_ ?_;rotate_left;focus ((intro w hSw;(try dsimp only at hSw);go_simp);try with_reducible rfl)
   (try simp only [Act.put,zA,zB,zC,zD,zE,zF])
   refine tkH (i:=2) (v:=?_) rfl ?_ ?_;rotate_left;focus ((intro w hSw;(try dsimp only at hSw);go_simp);try with_reducible rfl)
   (try simp only [Act.put,zA,zB,zC,zD,zE,zF])
   refine tkH (i:=3) (v:=?_) rfl ?_ ?_;rotate_left;focus ((intro w hSw;(try dsimp only at hSw);go_simp);try with_reducible rfl)
   (try simp only [Act.put,zA,zB,zC,zD,zE,zF])
   refine wpAnyH_ready (rs:=[4]) (by kernel_rfl) (by simp) ?_
   refine AllReadyH.cons rfl (fun K hK=>?_) AllReadyH.nil
   go_simp
   refine HG.out.mono ?_
   rintro e wz ⟨rfl,hbz⟩
   have hMz:=(hM5.below (w':=w5.drew) (Below.refl _ _).drew).below hbz
   have hbbz:=below_step (below_drewN hb5 1) hbz hb5.size
   have kz:=hMz.blk.cell 1
   simp only [zG,zH,zI] at kz
   have hszz:=hMz.lt.2.2.2.2.2
   refine hK.out _ _ kz (fun hHeld=>?_)
   clear hK K
   refine wpAnyH_ready (rs:=[5]) (by kernel_rfl) (by simp) ?_
   refine AllReadyH.cons rfl (fun K hK=>?_) AllReadyH.nil
   go_simp
   refine hK.out _ _ (cell_keep kz ((Below.refl _ _).alloc (Nat.le_refl _) _)) (fun hHeld=>?_)
   clear hK K
   refine wpAnyH_ready (rs:=[6]) (by kernel_rfl) (by simp) ?_
   refine AllReadyH.cons rfl (fun K hK=>?_) AllReadyH.nil
   refine step_app rfl (.tmp 30) (.tmp 34) _ rfl (w1.heap.size+2) 3 i0 _ 1 8 Tryz.underlying65 hi0 hz0 hz1 hz2 rfl (by omega) A2 n2 c2 (C.map encZ) rfl (hMz.o2.alloc _) _ 1 1 [encZ (gW R : Int)] rfl rfl (Rd.newAt (by simp) rfl) (encZ_ok [(gW R : Int)]) (by unfold maxLen;omega) (by omega) (by simp;omega) ?_
   intro A4 c4 w4 ho4 hg4 hA4
   have HM:=hMz.more2 (x:=(gW R : Int)) (by rw [List.map_append];exact ho4) hg4 hA4
   have k4:=HM.1.cell 1
   have f4:=HM.1.frozen 1
   simp only [zG,zH,zI] at k4
   refine hK.out _ _ k4 (fun hHeld=>?_)
   clear hK K
   refine tkH (i:=7) (v:=?_) rfl ?_ ?_;rotate_left;focus ((intro w hSw;(try dsimp only at hSw);go_simp);try with_reducible rfl)
   (try simp only [Act.put,zA,zB,zC,zD,zE,zF])
   refine wpAnyH_done (by kernel_rfl) ?_ _
   refine tailQ_end (wpOp_step (i:=8) rfl (fun K hK=>?_))
   go_simp
   refine hK _ _ ?_
   clear hK K
   have hM6:=HM.2.1
   have hb6:=HM.2.2 _ hbbz
   go_wp2
   go_roundw
   case rel=>exact ⟨q+W,g,_,_,_,_,_,_,P++[q],C++[(gW R : Int)],hM6,by omega,by omega,by omega,HA',hb6⟩
   case measure=>rw [iterPos_of hM6.it,Hpos.out];omega
  ·have hnx : ∀ ty,(Instr.next (.pointer (some ⟨w1.heap.size+1,0,none⟩)) true ty).run Tryz.prog wr = _:=fun ty=>Lib.run_next_end_at wr (w1.heap.size+1) s q ty hit hp
   have HE:=Lib.hid (scAt_end HA.out hp)
   have hRr:=hR1.below hb
   have k0:=hM.blk.cell 0
   have k1:=hM.blk.cell 1
   have k2:=hM.blk.cell 2
   have r0:=hRr.cell 0
   have r1:=hRr.cell 1
   have r2:=hRr.cell 2
   have g0:=hRr.frozen 0
   have g1:=hRr.frozen 1
   have g2:=hRr.frozen 2
   simp only [zG,zH,zI] at k0 k1 k2 r0 r1 r2
   go_wp2
   have hl1 : ∀ a,A1 = some a→a.block ≠ w.heap.size:=fun a ha=>by have:=(hM.o1.lt a ha).1;omega
   have hl2 : ∀ a,A2 = some a→a.block ≠ w.heap.size:=fun a ha=>by have:=(hM.o2.lt a ha).1;omega
   have hBk:=((hRr.set_ 0 (.slice A1 n1 c1)).set_ 1 (.slice A2 n2 c2)).set_ 2 (.int .i64 s.size)
   have ho1:=((((hM.o1.setCell (p:=⟨w.heap.size,0,none⟩) hl1 (.slice A1 n1 c1)).setCell (p:=⟨w.heap.size,1,none⟩) hl1 (.slice A2 n2 c2)).setCell (p:=⟨w.heap.size,2,none⟩) hl1 (.int .i64 s.size)).more (b':=w.heap.size) (by omega))
   have ho2:=((((hM.o2.setCell (p:=⟨w.heap.size,0,none⟩) hl2 (.slice A1 n1 c1)).setCell (p:=⟨w.heap.size,1,none⟩) hl2 (.slice A2 n2 c2)).setCell (p:=⟨w.heap.size,2,none⟩) hl2 (.int .i64 s.size)).more (b':=w.heap.size) (by omega))
   have hbb:=(((below_step hB1 hb hB1.size).setCell (p:=⟨w.heap.size,0,none⟩) (Nat.le_refl _) (.slice A1 n1 c1)).setCell (p:=⟨w.heap.size,1,none⟩) (Nat.le_refl _) (.slice A2 n2 c2)).setCell (p:=⟨w.heap.size,2,none⟩) (Nat.le_refl _) (.int .i64 s.size)
   rw [HE.out.1] at ho1
   rw [HE.out.2] at ho2
   refine bodyPost_ret (res_scan _ w.heap.size _ rfl (by simpa using hBk)) rfl ?_
   exact ⟨_,_,_,_,_,_,rfl,ho1,ho2,hbb⟩
end
section
open Go.RowKit
theorem pick_next {c : List Int} {P : List Nat} {i a : Nat} (h : P[i]? = some a) : wPick c 0 (P.take (i+1)) = wPick c 0 (P.take i)++(if i = 0∨wCut c i = true then [a] else []):=by
 obtain ⟨h1,h2⟩:=List.getElem?_eq_some_iff.1 h
 rw [List.take_add_one,h,Option.toList_some,wPick_append,Nat.zero_add,List.length_take,Nat.min_eq_left (by omega),wPick,wPick,List.append_nil]
theorem kBounds_any (s : ByteArray) (w : World) (hE : Env w) (hs : s.size≤1000000) :
  Calls Tryz.prog 92 #[.string s] w fun e w'=>∃ A n c,e = .returned (.slice A n c)∧Own w' w.heap.size 3 1 A n c ((wBounds gW s).map encN)∧Below w.heap.size w w':=by
 obtain ⟨i0,hi0,hz0,hz1,hz2⟩:=info_parts infoInt
 have HC:=Lib.hid (kscan_any s w hE hs)
 obtain ⟨P,HP⟩ : ∃ P,Hid ((runesP s).map (·.2.1) = P):=⟨_,Lib.hid rfl⟩
 obtain ⟨C,HCl⟩ : ∃ C,Hid (wCls gW s = C):=⟨_,Lib.hid rfl⟩
 have HW : Hid (wBounds gW s = wPick C 0 P++(if s.size = 0 then [] else [s.size])):=Lib.hid (by rw [← HP.out,← HCl.out];rfl)
 have hPl : P.length = C.length:=by rw [← HP.out,← HCl.out,List.length_map,wCls_len]
 have hPz : P.length≤s.size:=by rw [← HP.out,List.length_map];exact runesP_len s
 clear hE
 go_enter Tryz.func92,Tryz.ntmps92
 go_wp2_with fail
 refine HC.out.mono ?_
 rintro e w1 ⟨A1,n1,c1,A2,n2,c2,rfl,o1,o2,hb1⟩
 clear HC
 rw [HP.out] at o1
 rw [HCl.out] at o2
 have hn1 : P.length = n1:=by have:=o1.len;simpa using this
 have hn2 : C.length = n2:=by have:=o2.len;simpa using this
 obtain rfl : n2 = n1:=by omega
 have Hn2:=Lib.hid hn2
 have Hn1:=Lib.hid hn1
 have hnz : n2≤s.size:=by omega
 clear hn1 hn2 hPl hPz
 have hK:=Blk.new w1 165 #[.slice A1 n2 c1,.slice A2 n2 c2,.int .i64 s.size]
 have hb2 : Below w1.heap.size w1 (w1.alloc (.cells #[.slice A1 n2 c1,.slice A2 n2 c2,.int .i64 s.size] 165)):=(Below.refl _ _).alloc (Nat.le_refl _) _
 have o1:=o1.below hb2
 have o2:=o2.below hb2
 have hb3:=below_step hb1 hb2 hb1.size
 have k0:=hK.cell 0
 have k1:=hK.cell 1
 have k2:=hK.cell 2
 simp only [zG,zH,zI] at k0 k1 k2
 go_wp2_with fail
 have hk3 : w1.heap.size < (w1.alloc (.cells #[.slice A1 n2 c1,.slice A2 n2 c2,.int .i64 s.size] 165)).heap.size:=by simp
 generalize (w1.alloc (.cells #[.slice A1 n2 c1,.slice A2 n2 c2,.int .i64 s.size] 165)) = w3 at hK o1 o2 hb3 k0 k1 k2 hk3 ⊢
 generalize w1.heap.size = bx at hK k0 k1 k2 hk3 ⊢
 have rd1:=o1.rd (by decide)
 have rd2:=o2.rd (by decide)
 have hsz3:=hb3.size
 clear o1 o2 hb1 hb2
 go_loopw [4,12] (fun v u wr=>∃ (i : Nat) (A : Option Addr) (n c : Nat) (O : List Nat),v = .slice A n c∧u = .int .i64 i∧i≤n2∧Own wr w3.heap.size 3 1 A n c (O.map encN)∧n≤i∧Hid (O = wPick C 0 (P.take i))∧Below w3.heap.size w3 wr) (fun _ u _=>n2 - (intOf u).toNat)
 case atStart=>exact ⟨0,none,0,0,[],rfl,rfl,by omega,Own.nil_ _ _ _ _,by omega,Lib.hid rfl,Below.refl _ _⟩
 case round =>
  obtain ⟨i,A,n,c,O,rfl,rfl,hi,ho,hni,HO,hb⟩:=hrel
  have hszr:=hb.size
  by_cases hlt : i < n2
  ·obtain ⟨a,Ha⟩ : ∃ a,Hid (P[i]? = some a):=⟨_,Lib.hid (List.getElem?_eq_getElem (by have:=Hn1.out;omega))⟩
   obtain ⟨b1,off1,rfl,hc1⟩:=rd1.atP Ha.out
   have hc1:=cell_keep hc1 hb
   have j0:=cell_keep k0 hb
   have j1:=cell_keep k1 hb
   have j2:=cell_keep k2 hb
   have HN:=Lib.hid (pick_next (c:=C) Ha.out)
   rw [← HO.out] at HN
   have HX : Hid (i = 0∨∃ j,i = j+1):=Lib.hid (by cases i with | zero=>exact .inl rfl | succ j=>exact .inr ⟨j,rfl⟩)
   rcases HX.out with hi0 | ⟨j,rfl⟩
   ·have HN' : Hid (O++[a] = wPick C 0 (P.take (i+1))):=Lib.hid (by rw [HN.out,if_pos (.inl hi0)])
    have e0 : ((i : Int) == 0) = true:=by rw [hi0];rfl
    clear hi0
    go_wp2_with (at_builtin;go_must (refine wpList_app rfl (.tmp 24) (.tmp 26) _ rfl w3.heap.size 3 i0 _ 1 8 Tryz.underlying65 hi0 hz0 hz1 hz2 rfl (by omega) A n c (O.map encN) rfl (ho.alloc _) _ 1 1 [encN a] rfl rfl (Rd.newAt (by simp) rfl) (encN_ok [a]) (by unfold maxLen;omega) (by omega) (by simp;omega) ?_);intro A3 c3 w4 ho4 hg4 hA4;have hb4:=below_app (hb.alloc (by omega) _) hg4 (by simp;omega) (fun a ha=>by have:=(ho.lt a ha).1;omega);clear hg4 hA4)
    go_roundw
    case rel=>exact ⟨i+1,A3,n+1,c3,O++[a],rfl,by go_num,by omega,by rw [List.map_append];exact ho4,by omega,HN',hb4⟩
    case measure=>simp [intOf];omega
   ·have HCu:=Lib.hid (kcut_any (some ⟨b1,off1,none⟩) A2 n2 c1 n2 c2 s.size C (j+1) wr (rd2.below hb) Hn2.out (by omega) (by omega) (by omega))
    cases hcu : wCut C (j+1) with
    | true =>
     have HN' : Hid (O++[a] = wPick C 0 (P.take (j+1+1))):=Lib.hid (by rw [HN.out,if_pos (.inr hcu)])
     rw [hcu] at HCu
     clear hcu
     go_wp2_with (first | (go_at_call 116;refine HCu.out.mono ?_;rintro e w5 ⟨rfl,hb5⟩;have hbb:=below_step hb hb5 hb.size;have ho5:=ho.below hb5;have hs5:=hbb.size) | (at_builtin;go_must (refine wpList_app rfl (.tmp 24) (.tmp 26) _ rfl w3.heap.size 3 i0 _ 1 8 Tryz.underlying65 hi0 hz0 hz1 hz2 rfl (by omega) A n c (O.map encN) rfl (ho5.alloc _) _ 1 1 [encN a] rfl rfl (Rd.newAt (by simp) rfl) (encN_ok [a]) (by unfold maxLen;omega) (by omega) (by simp;omega) ?_);intro A3 c3 w4 ho4 hg4 hA4;have hb4:=below_app (hbb.alloc (by omega) _) hg4 (by simp;omega) (fun a ha=>by have:=(ho5.lt a ha).1;omega);clear hg4 hA4))
     go_roundw
     case rel=>exact ⟨j+1+1,A3,n+1,c3,O++[a],rfl,by go_num,by omega,by rw [List.map_append];exact ho4,by omega,HN',hb4⟩
     case measure=>simp [intOf];omega
    | false =>
     have HN' : Hid (O = wPick C 0 (P.take (j+1+1))):=Lib.hid (by rw [HN.out,if_neg (by rw [hcu];simp),List.append_nil])
     rw [hcu] at HCu
     clear hcu
     go_wp2_with (go_at_call 116;refine HCu.out.mono ?_;rintro e w5 ⟨rfl,hb5⟩;have hbb:=below_step hb hb5 hb.size;have ho5:=ho.below hb5)
     go_roundw
     case rel=>exact ⟨j+1+1,A,n,c,O,rfl,by go_num,by omega,ho5,by omega,HN',hbb⟩
     case measure=>simp [intOf];omega
  ·obtain rfl : i = n2:=by omega
   have hO : Hid (O = wPick C 0 P):=Lib.hid (by rw [HO.out,List.take_of_length_le (by have:=Hn1.out;omega)])
   by_cases hz : 0 < s.size
   ·have HV : Hid (O++[s.size] = wBounds gW s):=Lib.hid (by rw [HW.out,hO.out,if_neg (by omega)])
    go_wp2_with (at_builtin;go_must (refine wpList_app rfl (.tmp 32) (.tmp 35) _ rfl w3.heap.size 3 i0 _ 1 8 Tryz.underlying65 hi0 hz0 hz1 hz2 rfl (by omega) A n c (O.map encN) rfl (ho.alloc _) _ 1 1 [encN s.size] rfl rfl (Rd.newAt (by simp) rfl) (encN_ok [s.size]) (by unfold maxLen;omega) (by omega) (by simp;omega) ?_);intro A3 c3 w4 ho4 hg4 hA4;have hb4:=below_app (hb.alloc (by omega) _) hg4 (by simp;omega) (fun a ha=>by have:=(ho.lt a ha).1;omega);clear hg4 hA4)
    go_ret
    exact ⟨A3,n+1,c3,rfl,by rw [← HV.out,List.map_append];exact ho4.more hsz3,below_step hb3 hb4 hsz3⟩
   ·have HV : Hid (O = wBounds gW s):=Lib.hid (by rw [HW.out,hO.out,if_pos (by omega),List.append_nil])
    go_wp2
    go_ret
    exact ⟨A,n,c,rfl,by rw [← HV.out];exact ho.more hsz3,below_step hb3 hb hsz3⟩
end
end Go.Proofs.YtlfpdpbbkjnapaaGreatDoor
