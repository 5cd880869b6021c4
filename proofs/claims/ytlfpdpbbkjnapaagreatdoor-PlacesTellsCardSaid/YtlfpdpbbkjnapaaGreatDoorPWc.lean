/- -/
import Derived.Deep.DeepMust
import Derived.Test.YtlfpdpbbkjnapaaGreatDoorPWb
namespace Go.Proofs.YtlfpdpbbkjnapaaGreatDoor
set_option maxRecDepth 100000
set_option maxHeartbeats 40000000
section
open Go.RowKit Go.Maps
def cmpV (x y : Int) : Int:=if x < y then -1 else if y < x then 1 else 0
theorem lIsNaN_any (x : Int) (w : World) : Calls Tryz.prog 206 #[.int .i32 x] w fun e w'=>e = .returned (.bool false)∧w' = w:=by
 go_enter Tryz.func206,Tryz.ntmps206
 go_wp2
 go_ret
 exact ⟨by simp,rfl⟩
theorem lCompare_any (x y : Int) (w : World) : Calls Tryz.prog 166 #[.int .i32 x,.int .i32 y] w fun e w'=>e = .returned (.int .i64 (cmpV x y))∧w' = w:=by
 rcases (by omega : x < y∨y < x∨x = y) with h | h | h
 ·have hv : Hid (cmpV x y = -1):=Lib.hid (by unfold cmpV;rw [if_pos h])
  go_enter Tryz.func166,Tryz.ntmps166
  go_wp2_with (go_at_call 206;refine (lIsNaN_any _ _).mono ?_;rintro e w' ⟨rfl,rfl⟩)
  go_ret
  exact ⟨by rw [hv.out];rfl,rfl⟩
 ·have hv : Hid (cmpV x y = 1):=Lib.hid (by unfold cmpV;rw [if_neg (by omega),if_pos h])
  go_enter Tryz.func166,Tryz.ntmps166
  go_wp2_with (go_at_call 206;refine (lIsNaN_any _ _).mono ?_;rintro e w' ⟨rfl,rfl⟩)
  go_ret
  exact ⟨by rw [hv.out];rfl,rfl⟩
 ·subst h
  have hv : Hid (cmpV x x = 0):=Lib.hid (by unfold cmpV;rw [if_neg (by omega),if_neg (by omega)])
  go_enter Tryz.func166,Tryz.ntmps166
  go_wp2_with (go_at_call 206;refine (lIsNaN_any _ _).mono ?_;rintro e w' ⟨rfl,rfl⟩)
  go_ret
  exact ⟨by rw [hv.out];rfl,rfl⟩
theorem wGet1_any (lo hi c r : Int) (w : World) : Calls Tryz.prog 165 #[.agg #[.int .i32 lo,.int .i32 hi,.int .i64 c],.int .i32 r] w fun e w'=>e = .returned (.int .i64 (cmpV hi r))∧Below w.heap.size w w':=by
 go_enter Tryz.func165,Tryz.ntmps165
 go_wp2_with (go_at_call 166;refine (lCompare_any _ _ _).mono ?_;rintro e w' ⟨rfl,rfl⟩)
 go_ret
 exact ⟨rfl,(Below.refl _ _).alloc (Nat.le_refl _) _⟩
theorem Rd.atD {w : World} {A : Option Addr} {l : List (Int × Int × Nat)} {k : Nat} {x : Int × Int × Nat} (h : Rd w 3 A (l.map encD)) (hk : l[k]? = some x) :
  ∃ b off,A = some ⟨b,off,none⟩∧w.cell? ⟨b,off+k*3,none⟩ = some (.int .i32 x.1)∧w.cell? ⟨b,off+k*3+1,none⟩ = some (.int .i32 x.2.1)∧w.cell? ⟨b,off+k*3+2,none⟩ = some (.int .i64 (x.2.2 : Int)):=by
 obtain ⟨b,off,rfl,hc⟩:=h (by intro e;cases l with | nil=>simp at hk | cons _ _=>simp at e)
 have h0:=hc k 0 (encD x) (.int .i32 x.1) (by simp [hk]) rfl
 have h1:=hc k 1 (encD x) (.int .i32 x.2.1) (by simp [hk]) rfl
 have h2:=hc k 2 (encD x) (.int .i64 (x.2.2 : Int)) (by simp [hk]) rfl
 exact ⟨b,off,rfl,by simpa using h0,h1,h2⟩
theorem lSearch_any (A : Option Addr) (n c : Nat) (l : List (Int × Int × Nat)) (r : Int) (w : World) (hA : Rd w 3 A (l.map encD)) (hl : l.length = n) (hn : n≤4000000) (hp : l.Pairwise fun a b=>a.2.1 < b.1) (hle : ∀ y ∈ l,y.1≤y.2.1) :
  Calls Tryz.prog 164 #[.slice A n c,.int .i32 r,.func (.func 165) #[] #[]] w fun e w'=>(∃ q : Bool,e = .returned (.tuple #[.int .i64 (l.countP (endB r) : Nat),.bool q]))∧Below w.heap.size w w':=by
 have Hl:=Lib.hid hl
 have Hp:=Lib.hid hp
 have Hle:=Lib.hid hle
 clear hl hp hle
 go_enter Tryz.func164,Tryz.ntmps164
 go_wp2
 go_loopw [9,10] (fun u v wr=>∃ (i j : Nat),u = .int .i64 i∧v = .int .i64 j∧i≤j∧j≤n∧Hid (BinAt l r i j)∧Below w.heap.size w wr) (fun u v _=>(intOf v).toNat - (intOf u).toNat)
 case atStart=>exact ⟨0,n,rfl,rfl,by omega,by omega,by rw [← Hl.out];exact binAt_first l r,Below.refl _ _⟩
 case round =>
  obtain ⟨i,j,rfl,rfl,hij,hj,HB,hb⟩:=hrel
  by_cases hlt : i < j
  ·obtain ⟨h,Hh⟩ : ∃ h,Hid (h = (i+j) / 2):=⟨_,rfl⟩
   have hh1 : i≤h:=by have:=Hh.out;omega
   have hh2 : h < j:=by have:=Hh.out;omega
   obtain ⟨x,Hx⟩ : ∃ x,Hid (l[h]? = some x):=⟨_,Lib.hid (List.getElem?_eq_getElem (by have:=Hl.out;omega))⟩
   obtain ⟨b,off,rfl,x0,x1,x2⟩:=hA.atD Hx.out
   have x0:=cell_keep x0 hb
   have x1:=cell_keep x1 hb
   have x2:=cell_keep x2 hb
   have e1 : ((i : Int)+(j : Int)) / 2 = (h : Int):=by have:=Hh.out;omega
   have e2 : (i+j) / 2 = h:=by have:=Hh.out;omega
   by_cases hx : x.2.1 < r
   ·have HV : Hid (cmpV x.2.1 r = -1):=Lib.hid (by unfold cmpV;rw [if_pos hx])
    have HB':=Lib.hid (binAt_left HB.out Hp.out Hle.out hh2 Hx.out hx)
    go_wp2_with (go_at_call 165;refine (wGet1_any _ _ _ _ _).mono ?_;rw [HV.out];rintro e w2 ⟨rfl,hb2⟩)
    go_roundw
    case rel=>exact ⟨h+1,j,by go_num,rfl,by omega,hj,HB',below_step hb hb2 hb.size⟩
    case measure=>simp [intOf];omega
   ·have HB':=Lib.hid (binAt_right HB.out Hp.out Hle.out hh1 hh2 Hx.out hx)
    obtain ⟨v,HV,hv⟩ : ∃ v,Hid (cmpV x.2.1 r = v)∧0≤v:=⟨_,rfl,by unfold cmpV;rw [if_neg hx];split <;> omega⟩
    go_wp2_with (go_at_call 165;refine (wGet1_any _ _ _ _ _).mono ?_;rw [HV.out];rintro e w2 ⟨rfl,hb2⟩)
    go_roundw
    case rel=>exact ⟨i,h,rfl,by go_num,by omega,by omega,HB',below_step hb hb2 hb.size⟩
    case measure=>simp [intOf];omega
  ·have HE:=Lib.hid (binAt_end HB.out hlt)
   by_cases hin : i < n
   ·obtain ⟨x,Hx⟩ : ∃ x,Hid (l[i]? = some x):=⟨_,Lib.hid (List.getElem?_eq_getElem (by have:=Hl.out;omega))⟩
    obtain ⟨b,off,rfl,x0,x1,x2⟩:=hA.atD Hx.out
    have x0:=cell_keep x0 hb
    have x1:=cell_keep x1 hb
    have x2:=cell_keep x2 hb
    go_wp2_with (go_at_call 165;refine (wGet1_any _ _ _ _ _).mono ?_;rintro e w2 ⟨rfl,hb2⟩)
    go_ret2
    exact ⟨⟨_,by rw [HE.out];rfl⟩,below_step hb hb2 hb.size⟩
   ·go_wp2
    go_ret2
    exact ⟨⟨_,by rw [HE.out];rfl⟩,hb⟩
theorem get_in {d : DbP} (h : d.Ok) (ha : Apart d.sets) {r : Int} {i : Nat} (hi : d.rng.countP (endB (askR r)) = i) {x : Int × Int × Nat} (hx : d.rng[i]? = some x) : d.get r = if x.1≤askR r then x.2.2 else 0:=by
 rw [← find_get h ha r];subst hi;exact findC_in hx
theorem get_out {d : DbP} (h : d.Ok) (ha : Apart d.sets) {r : Int} {i : Nat} (hi : d.rng.countP (endB (askR r)) = i) (hx : ¬ i < d.rng.length) : d.get r = 0:=by
 rw [← find_get h ha r];subst hi;exact findC_out hx
theorem rng_le {d : DbP} (h : d.Ok) : ∀ y ∈ d.rng,y.1≤y.2.1:=fun y hy=>(rng_bd h y hy).2.1
theorem wGet_any (p : Nat) (d : DbP) (r : Int) (w : World) (h : DbAt w p d) (ho : d.Ok) (ha : Apart d.sets) :
  Calls Tryz.prog 134 #[.pointer (some ⟨p,0,none⟩),.int .i32 r] w fun e w'=>e = .returned (.int .i64 (d.get r : Nat))∧Below w.heap.size w w':=by
 obtain ⟨An,nn,cn,bm,nm,D,As,ns,cs,xs,Ar,nr,cr,hp,_,_,_,_,_,hr⟩:=h.ex
 have hlr : d.rng.length = nr:=by simpa using hr.len
 have hnr : nr≤4000000:=by have:=(rng_len ho ha).1;omega
 have hrd:=hr.rd (by omega)
 have HS:=Lib.hid (fun W q (hA : Rd W 3 Ar (d.rng.map encD))=>lSearch_any Ar nr cr d.rng q W hA hlr hnr (rng_next ho ha) (rng_le ho))
 have HI:=Lib.hid (fun i x (hi : d.rng.countP (endB (askR r)) = i) (hx : d.rng[i]? = some x)=>get_in ho ha hi hx)
 have HO:=Lib.hid (fun i (hi : d.rng.countP (endB (askR r)) = i) (hx : ¬ i < nr)=>get_out ho ha hi (by rw [hlr];exact hx))
 have Hlr:=Lib.hid hlr
 have c3:=hp.cell 3
 simp at c3
 have hcase0 : (r < 0∧askR r = 65533)∨(¬ r < 0∧1114111 < r∧askR r = 65533)∨(¬ r < 0∧¬ 1114111 < r∧askR r = r):=by
  unfold askR;split <;> omega
 obtain ⟨q,hq⟩ : ∃ q,askR r = q:=⟨_,rfl⟩
 rw [hq] at HI HO hcase0
 obtain ⟨i,Hi⟩ : ∃ i,Hid (d.rng.countP (endB q) = i):=⟨_,rfl⟩
 have hile : i≤nr:=by have:=Hi.out;have:=List.countP_le_length (p:=endB q) (l:=d.rng);omega
 have hcase:=hcase0
 clear hcase0 hq
 clear ho ha h hlr
 by_cases hin : i < nr
 ·obtain ⟨x,Hx⟩ : ∃ x,Hid (d.rng[i]? = some x):=⟨_,Lib.hid (List.getElem?_eq_getElem (by have:=Hlr.out;omega))⟩
  obtain ⟨b,off,rfl,x0,x1,x2⟩:=hrd.atD Hx.out
  have HG:=Lib.hid (HI.out i x Hi.out Hx.out)
  by_cases hx : x.1≤q
  ·have HV : Hid (d.get r = x.2.2):=Lib.hid (by rw [HG.out,if_pos hx])
   clear HG HI HO
   rcases hcase with ⟨h1,rfl⟩ | ⟨h1,h2,rfl⟩ | ⟨h1,h2,rfl⟩
   all_goals
    go_enter Tryz.func134,Tryz.ntmps134
    go_wp2_with (go_at_call 164;refine (HS.out _ _ hrd).mono ?_;rw [Hi.out];rintro e w1 ⟨⟨v,rfl⟩,hb1⟩;replace c3:=cell_keep c3 hb1;replace x0:=cell_keep x0 hb1;replace x2:=cell_keep x2 hb1)
    go_ret
    exact ⟨by rw [HV.out];rfl,hb1⟩
  ·have HV : Hid (d.get r = 0):=Lib.hid (by rw [HG.out,if_neg hx])
   clear HG HI HO
   rcases hcase with ⟨h1,rfl⟩ | ⟨h1,h2,rfl⟩ | ⟨h1,h2,rfl⟩
   all_goals
    go_enter Tryz.func134,Tryz.ntmps134
    go_wp2_with (go_at_call 164;refine (HS.out _ _ hrd).mono ?_;rw [Hi.out];rintro e w1 ⟨⟨v,rfl⟩,hb1⟩;replace c3:=cell_keep c3 hb1;replace x0:=cell_keep x0 hb1;replace x2:=cell_keep x2 hb1)
    go_ret
    exact ⟨by rw [HV.out];rfl,hb1⟩
 ·have HV : Hid (d.get r = 0):=Lib.hid (HO.out i Hi.out hin)
  clear HI HO
  rcases hcase with ⟨h1,rfl⟩ | ⟨h1,h2,rfl⟩ | ⟨h1,h2,rfl⟩
  all_goals
   go_enter Tryz.func134,Tryz.ntmps134
   go_wp2_with (go_at_call 164;refine (HS.out _ _ hrd).mono ?_;rw [Hi.out];rintro e w1 ⟨⟨v,rfl⟩,hb1⟩;replace c3:=cell_keep c3 hb1)
   go_ret
   exact ⟨by rw [HV.out];rfl,hb1⟩
end
end Go.Proofs.YtlfpdpbbkjnapaaGreatDoor
