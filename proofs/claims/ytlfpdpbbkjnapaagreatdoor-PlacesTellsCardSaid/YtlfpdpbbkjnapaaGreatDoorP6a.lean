/-
 Several texts in one,in their build order: Wh,WitL.
-/
import Derived.Test.YtlfpdpbbkjnapaaGreatDoorCards
import Derived.Test.YtlfpdpbbkjnapaaGreatDoorTie
import Derived.PinnedBridge
import Derived.Lib.LaidIn
import Derived.Lib.LaidU8
import Derived.Lib.LaidTab
import Derived.Shelf.Vars
import Derived.Deep.DeepHandedRow
import Derived.Deep.DeepWitnessRowRef
import Derived.ProofKit
import Derived.Test.YtlfpdpbbkjnapaaGreatDoorPWf
import Derived.Test.YtlfpdpbbkjnapaaGreatDoorPWg
import Derived.Test.YtlfpdpbbkjnapaaGreatDoorP0a
import Derived.Test.YtlfpdpbbkjnapaaGreatDoorPRdr
/- -/
namespace Go.Proofs.YtlfpdpbbkjnapaaGreatDoor
set_option maxRecDepth 100000
set_option maxHeartbeats 40000000
section
open Go.RowKit Go.Maps
structure Env (w : World) : Prop where
 tabs : Tabs w
 max : MaxW w
 tabB : TabB w
theorem Env.below {w w' : World} (h : Env w) (hb : Below w.heap.size w w') : Env w':=⟨h.tabs.below hb,h.max.below hb,cell_keep h.tabB hb⟩
theorem wpList_insert_own {H : Type} {P : Program} (w : World) {ops : Array Oper} {rest : List Oper} {o : Oper} {a : Act} {Q : Exit→Act→World→Prop}
  (hg : o.guard = none) (m x v : Operand) (t : TypeId) (hop : o.op = Op.insert t m x v)
  (k e : TypeId) (K : Keyed P k) (ht : P.underlying t = some (.map k e)) (R : Value→Option (DataW H × List MemPlace)) (b n : Nat) (D : DataW H)
  (hm : a.eval m = .map (some b)) (hown : w.ownsMap P k R b n D) (hn : n < maxLen) (key val : Value) (kl : Lit) (hx : a.eval x = key) (hv : a.eval v = val) (hkey : keyOf P k key = some kl)
  (d : DataW H) (ps : List MemPlace) (hval : R val = some (d,ps))
  (hK : ∀ w',w'.ownsMap P k R b (n+1) (D.put kl d)→w.grownBy w' (some b)→wpList P ops Q rest (a.put o.dst undef) w') :
  wpList P ops Q (o :: rest) a w:=by
 refine wpList_plain hg fun K' hK'=>?_
 obtain ⟨w',hrun,r1,r2⟩:=hown.update K ht hn hkey hval
 unfold Oper.wp
 simp [execOp,hop,hm,hx,hv,hrun,Result.andThen]
 exact hK' _ _ (hK w' r1 r2)
theorem mem_lenL : ∀ {L : List (List UInt8)} {l : List UInt8},l ∈ L→l.length+1≤lenL L
 | [],l,h=>by simp at h
 | a :: L,l,h=>by
  rcases List.mem_cons.1 h with rfl | h
  ·simp only [lenL];omega
  ·have:=mem_lenL h;simp only [lenL];omega
theorem line_len {t : List UInt8} {i : Nat} {l : List UInt8} (h : (splitL t)[i]? = some l) : l.length≤t.length:=by
 have:=mem_lenL (List.mem_of_getElem? h);rw [split_len] at this;omega
theorem addL_err {d : DbP} {n s : List UInt8} {k : Int} (h : addL d n s = .error k) : 6≤k:=by
 unfold addL at h
 split at h
 ·injection h with h;omega
 ·split at h
  ·rename_i e he
   injection h with h;subst h
   unfold parseE at he
   split at he
   ·rename_i y hy
    injection he with he
    have:=parse_code hy;omega
   ·cases he
  ·split at h
   ·split at h
    ·injection h with h;omega
    ·cases h
   ·split at h
    ·injection h with h;omega
    ·split at h
     ·injection h with h;omega
     ·cases h
theorem addS_err {d : DbP} {u : List UInt8} {k : Int} (h : addS d u = .error k) : 6≤k:=by
 unfold addS at h
 split at h
 ·injection h with h;omega
 ·exact addL_err h
theorem lineU_len (l : List UInt8) : (lineU l).length≤l.length:=by
 unfold lineU
 refine Nat.le_trans (trimL_len _) ?_
 rw [List.length_take];omega
def NewEnd (r : Except (Int × Nat) DbP) (e : Ending) (w' : World) : Prop :=
 match r with
 | .error x=>e = .returned (.tuple #[.pointer none,.int .i64 x.1,.int .i64 (x.2 : Int)])
 | .ok d=>∃ p,e = .returned (.tuple #[.pointer (some ⟨p,0,none⟩),.int .i64 0,.int .i64 0])∧DbAt w' p d
theorem NewEnd.err {r : Except (Int × Nat) DbP} {k : Int} {i : Nat} {w' : World} (h : r = .error (k,i)) : NewEnd r (.returned (.tuple #[.pointer none,.int .i64 k,.int .i64 (i : Int)])) w':=by rw [h];exact rfl
theorem NewEnd.fine {r : Except (Int × Nat) DbP} {d : DbP} {p : Nat} {w' : World} (h : r = .ok d) (hd : DbAt w' p d) : NewEnd r (.returned (.tuple #[.pointer (some ⟨p,0,none⟩),.int .i64 0,.int .i64 0])) w':=by rw [h];exact ⟨p,rfl,hd⟩
theorem own_one {w : World} {t : TypeId} {u : Value} {base : Nat} (hb : base≤w.heap.size) : Own (w.alloc (.cells #[u] t)) base t 1 (some ⟨w.heap.size,0,none⟩) 1 1 [[u]] :=
 ⟨rfl,by simp,by simp,.inr ⟨w.heap.size,1,#[u],rfl,hb,heap_alloc_new _ _,Nat.le_refl _,by unfold maxLen;omega,rfl,by simp⟩⟩
theorem dbX_first {w w2 : World} {D : DataW Unit} (hD : D = (DataW.map []).put (.string otherL) (.lit (.int .i64 0)))
  (hown : w2.ownsMap Tryz.prog 9 (plainElem (H:=Unit) Tryz.prog 3) (w.heap.size+1) 1 D) (hg : ((w.alloc (.cells #[.string (bytesOf otherL)] 9)).alloc (.map #[] 0)).grownBy w2 (some (w.heap.size+1))) :
  DbX ((w2.alloc (.cells #[.slice none 0 0] 239)).alloc (.cells #[.slice (some ⟨w.heap.size,0,none⟩) 1 1,.map (some (w.heap.size+1)),.slice (some ⟨w2.heap.size,0,none⟩) 1 1,.slice none 0 0] 229)) w.heap.size (w2.heap.size+1) (w2.heap.size+2)
   (some ⟨w.heap.size,0,none⟩) 1 1 (w.heap.size+1) 1 D (some ⟨w2.heap.size,0,none⟩) 1 1 [(none,0,0)] [otherL] [[]] ∧
  Below w.heap.size w ((w2.alloc (.cells #[.slice none 0 0] 239)).alloc (.cells #[.slice (some ⟨w.heap.size,0,none⟩) 1 1,.map (some (w.heap.size+1)),.slice (some ⟨w2.heap.size,0,none⟩) 1 1,.slice none 0 0] 229)):=by
 have hs2:=hg.size
 simp at hs2
 have n1 : Own (w.alloc (.cells #[.string (bytesOf otherL)] 9)) w.heap.size 9 1 (some ⟨w.heap.size,0,none⟩) 1 1 ([otherL].map encNm):=own_one (Nat.le_refl _)
 have n2:=((n1.alloc (.map #[] 0)).grown hg (fun a ha e=>by injection ha with ha;subst ha;injection e with e;simp only at e;omega))
 have s3 : Own (w2.alloc (.cells #[.slice none 0 0] 239)) w.heap.size 239 1 (some ⟨w2.heap.size,0,none⟩) 1 1 ([((none : Option Addr),0,0)].map encSl):=own_one (by omega)
 refine ⟨⟨?_,by omega,(n2.alloc _).alloc _,(hown.alloc _).alloc _,Nat.le_refl _,by omega,?_,s3.alloc _,⟨rfl,?_⟩,by omega,by omega,fun a ha=>by injection ha with ha;subst ha;show w.heap.size ≠ w2.heap.size+2;omega,fun a ha=>by injection ha with ha;subst ha;show w2.heap.size ≠ w2.heap.size+2;omega⟩,?_⟩
 ·have:=Blk.new (w2.alloc (.cells #[.slice none 0 0] 239)) 229 #[.slice (some ⟨w.heap.size,0,none⟩) 1 1,.map (some (w.heap.size+1)),.slice (some ⟨w2.heap.size,0,none⟩) 1 1,.slice none 0 0]
  simpa using this
 ·rw [hD];exact MapIs.nil_.put otherL rfl
 ·intro k x l hx hl
  match k,hx,hl with
  | 0,hx,hl=>simp at hx hl;subst hx;subst hl;exact Own.nil_ _ _ _ _
  | k+1,hx,hl=>simp at hx
 ·have h1 : Below w.heap.size w ((w.alloc (.cells #[.string (bytesOf otherL)] 9)).alloc (.map #[] 0)):=((Below.refl _ _).alloc (Nat.le_refl _) _).alloc (by simp) _
  have h2:=h1.grown hg (by simp;omega) (fun k hk=>by injection hk with hk;omega)
  exact (h2.alloc (by omega) _).alloc (by simp;omega) _
theorem wNew_any (t : List UInt8) (w : World) (hE : Env w) (ht : t.length≤maxLen) :
  Calls Tryz.prog 133 #[.string (bytesOf t)] w fun e w'=>NewEnd (newP t) e w'∧Below w.heap.size w w':=by
 have hsz : (bytesOf t).size = t.length:=bytesOf_size t
 have hmm:=@run_makeMap Tryz.prog
 unfold maxLen at ht
 by_cases hl : 65536 < t.length
 ·have HE:=Lib.hid (newP_long hl)
  go_enter Tryz.func133,Tryz.ntmps133
  go_wp2
  go_ret3
  exact ⟨NewEnd.err HE.out,Below.refl _ _⟩
 ·have HG:=Lib.hid (newP_go hl)
  obtain ⟨m,hm⟩:=hE.max
  have Hm:=Lib.hid hm
  clear hm
  go_enter Tryz.func133,Tryz.ntmps133
  have hkey : keyOf Tryz.prog 9 (.string ⟨#[79,116,104,101,114]⟩) = some (.string otherL):=keyS (n:=otherL) (by decide)
  have ho0:=World.ownsMap_made (H:=Unit) (w.alloc (.cells #[.string (bytesOf otherL)] 9)) Tryz.prog 9 (plainElem (H:=Unit) Tryz.prog 3)
  rw [show (w.alloc (.cells #[.string (bytesOf otherL)] 9)).heap.size = w.heap.size+1 by simp] at ho0
  go_wp2_with ((refine wpList_insert_own _ rfl _ _ _ 226 rfl 9 3 keyedS Tryz.underlying226 _ (w.heap.size+1) 0 (.map []) rfl ho0 (by unfold maxLen;omega) _ _ (.string otherL) rfl rfl hkey _ [] (plainElem_int Tryz.underlying3 (WalkArith.wf_i64 (by omega))) ?_;intro w2 hown2 hg2))
  have hF:=dbX_first rfl hown2 hg2
  have hg2s:=hg2.size
  obtain ⟨hX,hB0⟩:=hF
  have hsx : w2.heap.size+2 = (((w2.alloc (.cells #[.slice none 0 0] 239)).alloc (.cells #[.slice (some ⟨w.heap.size,0,none⟩) 1 1,.map (some (w.heap.size+1)),.slice (some ⟨w2.heap.size,0,none⟩) 1 1,.slice none 0 0] 229))).heap.size:=by simp
  generalize ((w2.alloc (.cells #[.slice none 0 0] 239)).alloc (.cells #[.slice (some ⟨w.heap.size,0,none⟩) 1 1,.map (some (w.heap.size+1)),.slice (some ⟨w2.heap.size,0,none⟩) 1 1,.slice none 0 0] 229)) = w3 at hX hB0 hsx ⊢
  rw [hsx] at hX
  have HS:=Lib.hid (Tryz.strings_Split (bytesOf t) ⟨#[10]⟩ m w3 (by omega) (cell_keep Hm.out hB0) (show 1≤1 by omega))
  obtain ⟨L,HL⟩ : ∃ L,Hid (splitL t = L):=⟨_,rfl⟩
  have hsp:=split_lines (bytesOf t)
  have hc0:=Lib.splitB_all ⟨#[10]⟩ (show 1≤1 by omega) 0 _ (bytesOf t) rfl
  rw [bytesOf_list,HL.out,show bytesOf [10] = ⟨#[10]⟩ from rfl] at hsp
  generalize Lib.splitB ⟨#[10]⟩ 0 (Lib.countB (bytesOf t) ⟨#[10]⟩) (bytesOf t) = SP at HS hsp hc0
  have hcount : Lib.countB (bytesOf t) ⟨#[10]⟩+1 = L.length:=by rw [← hc0,← hsp,List.length_map]
  rw [hcount] at HS
  have HLl:=Lib.hid (fun i l (h : L[i]? = some l)=>line_len (t:=t) (i:=i) (l:=l) (by rw [HL.out];exact h))
  have HLn : Hid (L.length≤65537):=Lib.hid (by rw [← HL.out,splitL_count];have:=List.count_le_length (a:=(10 : UInt8)) (l:=t);omega)
  have HSP : Hid (∀ i l,L[i]? = some l→SP[i]? = some (bytesOf l)):=Lib.hid (fun i l h=>by
   rw [← hsp,List.getElem?_map] at h
   cases hq : SP[i]? with
   | none=>rw [hq] at h;cases h
   | some s=>rw [hq] at h;simp at h;rw [← h,bytesOf_data])
  have HNP : Hid (newP t = linesGo DbP.first L 0):=Lib.hid (by rw [HG.out,HL.out])
  have hX4:=hX.below ((Below.refl _ _).alloc (Nat.le_refl _) (.cells (SP.map Value.string).toArray 9))
  have hB4 : Below w.heap.size w (w3.alloc (.cells (SP.map Value.string).toArray 9)):=hB0.alloc (by have:=hB0.size;omega) _
  have hb4:=Blk.new w3 9 (SP.map Value.string).toArray
  have hx4 : w3.heap.size < (w3.alloc (.cells (SP.map Value.string).toArray 9)).heap.size:=by simp
  refine HS.out.mono ?_
  rintro e w4 ⟨rfl,rfl⟩
  clear hX hB0 HS HG HL hc0 hsp hcount Hm hown2 hg2 hg2s hsx ho0 hmm hkey
  generalize w3.alloc (.cells (SP.map Value.string).toArray 9) = w4 at hX4 hB4 hb4 hx4 ⊢
  generalize w3.heap.size = x at hX4 hb4 hx4 ⊢
  generalize w2.heap.size+1 = p at hX4 ⊢
  have hsw:=hB4.size
  have HCell : Hid (∀ i l,L[i]? = some l→w4.cell? ⟨x,i,none⟩ = some (.string (bytesOf l))):=Lib.hid (fun i l h=>by
   rw [hb4.cell i];have:=HSP.out i l h;simp [this])
  clear hb4 HSP
  go_wp2_with fail
  go_loopw [21] (fun v wr=>∃ (i : Nat) (d : DbP),v = .int .i64 i∧i≤L.length∧DbB wr w.heap.size p x d∧wr.heap[x]? = w4.heap[x]?∧Hid (NewAt L i d)∧Below w.heap.size w wr∧x < wr.heap.size) (fun v _=>L.length - (intOf v).toNat)
  case atStart=>exact ⟨0,DbP.first,rfl,by omega,⟨_,_,_,_,_,_,_,_,_,_,hX4⟩,rfl,newAt_first L,hB4,hx4⟩
  case round =>
   clear hX4
   obtain ⟨i,d,rfl,hi,hd,hxr,HN,hb,hxl⟩:=hrel
   have hszr:=hb.size
   by_cases hlt : i < L.length
   ·obtain ⟨l,Hl⟩ : ∃ l,Hid (L[i]? = some l):=⟨_,Lib.hid (List.getElem?_eq_getElem hlt)⟩
    have hcell : wr.cell? ⟨x,i,none⟩ = some (.string (bytesOf l)):=(World.cell?_of_block hxr).trans (HCell.out i l Hl.out)
    have hll:=HLl.out i l Hl.out
    have hlu:=lineU_len l
    have HW:=Lib.hid (wline_any (bytesOf l) wr (hE.tabs.below (hb.mono (Nat.le_refl _))) (by rw [bytesOf_size];omega))
    rw [bytesOf_list] at HW
    have HN2:=HLn.out
    by_cases hu : lineU l = []
    ·have hem : (bytesOf (lineU l)).toList.isEmpty = true:=by rw [ByteArray.toList_eq,bytesOf_list,hu];rfl
     have HN':=Lib.hid (newAt_next HN.out Hl.out (step_nil hu))
     clear hu
     go_wp2_with (go_at_call 161;refine HW.out.mono ?_;rintro e w5 ⟨rfl,hb5⟩)
     go_roundw
     case rel=>exact ⟨i+1,d,by go_num,by omega,hd.below hb5,(hb5.block x hxl).trans hxr,HN',below_step hb hb5 hszr,Nat.lt_of_lt_of_le hxl hb5.size⟩
     case measure=>simp [intOf];omega
    ·have hem : (bytesOf (lineU l)).toList.isEmpty = false:=by
      rw [ByteArray.toList_eq,bytesOf_list]
      cases hq : lineU l with
      | nil=>exact absurd hq hu
      | cons a b=>rfl
     have HST:=Lib.hid (step_add (d:=d) hu)
     clear hu
     go_wp2_with fail
     refine HW.out.mono ?_
     rintro e w5 ⟨rfl,hb5⟩
     have hb5w:=below_step hb hb5 hszr
     have hx5:=Nat.lt_of_lt_of_le hxl hb5.size
     have hxr5:=(hb5.block x hxl).trans hxr
     have HA:=Lib.hid (wadd_any p w.heap.size x d (lineU l) w5 (hd.below hb5) HN.out.2.2.1 hx5 hb5w.size (hE.tabs.below hb5w) (hE.max.below hb5w) (by omega))
     go_wp2_with fail
     refine HA.out.mono ?_
     rintro e w6 ⟨hk,hae⟩
     have hb6:=hb5w.trans hk.1
     cases hs : addS d (lineU l) with
     | error k =>
      rw [hs] at hae HST
      have he : e = .returned (.int .i64 k):=hae
      subst he
      have hk0 : ((k : Int) != 0) = true:=by rw [bne_iff_ne];have:=addS_err hs;omega
      have HE:=Lib.hid (HNP.out.trans (newAt_err HN.out Hl.out HST.out))
      clear hs hae
      go_wp2
      go_ret3
      exact ⟨NewEnd.err HE.out,hb6⟩
     | ok d' =>
      rw [hs] at hae HST
      obtain ⟨rfl,hd'⟩:=hae
      have HN':=Lib.hid (newAt_next HN.out Hl.out HST.out)
      clear hs
      go_wp2
      go_roundw
      case rel=>exact ⟨i+1,d',by go_num,by omega,hd',(hk.2 hx5).trans hxr5,HN',hb6,Nat.lt_of_lt_of_le hx5 hk.1.size⟩
      case measure=>simp [intOf];omega
   ·have HE:=Lib.hid (HNP.out.trans (newAt_end HN.out hlt))
    have HC:=Lib.hid (wclose_any p w.heap.size x d wr hd HN.out.2.2.1 HN.out.2.2.2 hszr)
    go_wp2_with (go_at_call 163;refine HC.out.mono ?_;rintro e w5 ⟨rfl,hda,hb5⟩)
    go_ret3
    exact ⟨NewEnd.fine HE.out hda,hb.trans hb5⟩
end
section
open Go.ChangeShapes Go.WideShapes Go.ChangeAt Go.RowKit Go.Lib Go.Shelf
theorem ownK : ownKnob Tryz.prog.godebug = none:=by kernel_rfl
theorem accept_eq : (Rows.laid_unicode_utf8_acceptRanges : DataW Unit) = acceptData:=by kernel_rfl
theorem tabs_of_laid {W : World} (hL : laidMetH Tryz.prog Rows.placesBackRow.laid W) : Tabs W:=by
 have h1:=laidMet.reads hL (.tail _ (.tail _ (.tail _ (.tail _ (.tail _ (.tail _ (.head _)))))))
 have h2:=laidMet.reads hL (.tail _ (.tail _ (.tail _ (.head _))))
 rw [show (Rows.laid_unicode_utf8_first : DataW Unit) = firstData from Pinned.utf8First_eq] at h1
 rw [accept_eq] at h2
 exact utf8Tabs_of_reads (ρ:=Tryz.lays260_ren) { Tryz.lays260 with } ⟨by kernel_rfl,by kernel_rfl,by kernel_rfl,by kernel_rfl,by kernel_rfl,by kernel_rfl,by kernel_rfl⟩ h1 h2
def deB64 : List Int:=[0,1,56,2,57,49,28,3,61,58,42,50,38,29,17,4,62,47,59,36,45,43,51,22,53,39,33,30,24,18,12,5,63,55,48,27,60,41,37,16,46,35,44,21,52,32,23,11,54,26,40,15,34,20,31,10,25,14,19,9,13,8,7,6]
theorem tabB_of_laid {W : World} (hL : laidMetH Tryz.prog Rows.placesBackRow.laid W) : TabB W:=by
 have h:=laidMet.reads hL (.tail _ (.head _))
 rw [show (Rows.laid_math_bits_deBruijn64tab : DataW Unit) = tabData .u8 deB64 by kernel_rfl] at h
 obtain ⟨g,t,cs,fuel,p,hg,hty,hvar,hd⟩:=h
 obtain rfl := Option.some.inj ((show Tryz.prog.globalNamed "math/bits.deBruijn64tab" = some 7 by kernel_rfl).symm.trans hg)
 obtain rfl:=Option.some.inj ((show (Tryz.prog.globals[(7 : Nat)]?).map (·.type) = some 393 by kernel_rfl).symm.trans hty)
 have hcs:=cells_of_tab Tryz.underlying393 Tryz.underlying5 (by kernel_rfl) (by kernel_rfl) hd
 have:=World.var?_cell hg hvar 15
 unfold TabB
 rw [this,← Array.getElem?_toList,hcs];rfl
theorem env_of_laid {W : World} (hL : laidMetH Tryz.prog Rows.placesBackRow.laid W) (hS : W.ShapedOpen Tryz.prog) : Env W :=
 ⟨tabs_of_laid hL,cell_of_shapedOpen_int hS (g:=0) (t:=3) (zero:=#[.int .i64 0]) (of_decide_eq_true (by kernel_rfl)) (by kernel_rfl) rfl (by kernel_rfl) (by kernel_rfl) Tryz.underlying3,tabB_of_laid hL⟩
noncomputable def laidWorld (os : Os) : World :=
 let N:=(World.settled Tryz.prog os).heap.size
 let w0:=World.holding Tryz.prog os ⟨#[.cells #[.string ⟨#[118,97,108,117,101,32,111,117,116,32,111,102,32,114,97,110,103,101]⟩] 383,.cells #[.string ⟨#[105,110,118,97,108,105,100,32,115,121,110,116,97,120]⟩] 383],#[],[]⟩
 let put (h : Array Obj) (g : Nat) (cs : Array Value) : Array Obj:=h.modify g fun
  | .cells _ t frozen=>.cells cs t frozen
  | o=>o
 let h1:=put w0.heap 1 (firstTab.map fun z=>Value.int .u8 z).toArray
 let h2:=put h1 2 ((List.range 16).flatMap fun i=>[Value.int .u8 (accLo i),Value.int .u8 (accHi i)]).toArray
 let h3:=put h2 3 #[.iface 381 (.pointer (some ⟨N+1,0,none⟩))]
 let h4:=put h3 4 #[.iface 381 (.pointer (some ⟨N,0,none⟩))]
 let h5:=put h4 5 ((List.range 20).map fun i=>Value.int .u64 (10 ^ i : Nat)).toArray
 let h6:=put h5 6 ([0,1,28,2,29,14,24,3,30,22,20,15,25,17,4,8,31,27,13,23,21,19,16,7,26,12,18,6,11,5,10,9].map fun (z : Int)=>Value.int .u8 z).toArray
 let h7:=put h6 7 ([0,1,56,2,57,49,28,3,61,58,42,50,38,29,17,4,62,47,59,36,45,43,51,22,53,39,33,30,24,18,12,5,63,55,48,27,60,41,37,16,46,35,44,21,52,32,23,11,54,26,40,15,34,20,31,10,25,14,19,9,13,8,7,6].map fun (z : Int)=>Value.int .u8 z).toArray
 { w0 with heap:=h7 }
theorem laid_in (os : Os) (args : Array Value) : LaidIn Tryz.prog ((laidWorld os).forCall (fun _ _=>0) ⟨#[],args,[]⟩).memory Rows.placesBackRow.laid [1,2,3,4,5,6,7,(World.settled Tryz.prog default).heap.size,(World.settled Tryz.prog default).heap.size+1] :=
 LaidIn.of_run [1,2,3,4,5,6,7,(World.settled Tryz.prog default).heap.size,(World.settled Tryz.prog default).heap.size+1] 8 (by kernel_rfl) (by kernel_rfl) (by kernel_rfl) (by kernel_rfl)
end
end Go.Proofs.YtlfpdpbbkjnapaaGreatDoor
