/- Walks: groups. -/
import Derived.Test.YthoeeoddgkjkkaaGreatYp
import Derived.Test.YthoeeoddgkjkkaaGreatIa
namespace Go.Proofs.YthoeeoddgkjkkaaGreat
set_option linter.unusedSimpArgs false
set_option linter.unusedVariables false
open Go.Vm
set_option maxHeartbeats 2000000
set_option maxRecDepth 10000
def Jc (cs:List Int) (l:List DRow) (i:Nat):Prop:=∀ h:i<l.length,(rowOk cs l[i]=true∧(0<i→l[i-1].id<l[i].id))∧l[i].id≤1000000000
theorem Jy {cs:List Int} {l:List DRow} {i:Nat} (h:¬ Jc cs l i):CG cs l=false:=by
 rw[Bool.eq_false_iff]
 intro hg
 simp only[CG,Bool.and_eq_true,decide_eq_true_eq] at hg
 refine h fun hi=>⟨?_,hg.2.2 _ (List.getElem_mem hi)⟩
 by_cases hr:rowAt cs l i
 ·exact hr hi
 ·rw[ik hr] at hg
  cases hg.2.1
theorem V5 {cs:List Int} {l:List DRow} (h:∀ i,i<l.length→Jc cs l i):CG cs l=(FI cs&&decide (l.length≤12)):=by
 have h1:OE cs l=true:=bH fun i hi _=>(h i hi hi).1
 have h2:decide (∀ r∈l,r.id≤1000000000)=true:=decide_eq_true fun r hr=>by
  obtain⟨i,hi,rfl⟩:=List.getElem_of_mem hr
  exact(h i hi hi).2
 simp only[CG,h1,h2,Bool.and_true]
theorem Kq (cs:List Int) (l:List DRow) (hl:l.length≤1048576):Ctr Tryz.prog 161 [.c (.sl (cs.map intC)),.c (.sl (l.map DRow.c))] [.val (.c (.v (.bool (CG cs l))))]:=by
 refine Ctr.mk Tryz.call161 Tryz.func161 rfl mixed Tryz.ntmps161 Tryz.results161 (by kernel_rfl) rfl fun hw=>?_
 simp only[go_sem]
 refine CallK.mk _ (TN _) fun _=>?_
 rcases hc:FI cs with _ | _
 ·have e:CG cs l=false:=by simp only[CG,hc,Bool.false_and]
  simp only[go_sem,hc,e]
 rcases h12:decide ((l.length:Int)>12) with _ | _
 rotate_left
 ·have e:CG cs l=false:=by
   have:decide (l.length≤12)=false:=by simp at h12 ⊢; omega
   simp only[CG,this,Bool.and_false,Bool.false_and]
  simp only[go_sem,hc,h12,e]
 have h12':decide (l.length≤12)=true:=by simp at h12 ⊢; omega
 simp only[go_sem,hc,h12]
 refine LoopU.mk 0 (A:=Nat) (fun x=>[(17,.c (.v (.int .i64 (x))))]) (fun _=>[]) (fun k=>k≤l.length∧∀ i,i<k→Jc cs l i) (fun k=>l.length-k) 0 ⟨⟨rfl,rfl⟩,rfl,Nat.zero_le _,fun i h=>by omega⟩ ?_
 rintro k ⟨hk,hf⟩
 simp only[go_sem]
 refine cndC.mk (fun h=>?_) (fun h=>?_)
 ·have hk':k<l.length:=by simpa using h
  have hnext:Jc cs l k→∀ i,i<k+1→Jc cs l i:=by
   intro hg i hi
   by_cases e:i=k
   ·subst e; exact hg
   ·exact hf i (by omega)
  simp only[go_sem,AA _ hk']
  refine DrawK.mk ?_
  simp only[go_sem,AA _ hk',hk']
  refine CallF.mk _ (by simpa only[go_sem] using Yu cs l[k]) ?_
  rcases hv:rowOk cs l[k] with _ | _
  ·have hno:¬ Jc cs l k:=by intro hg; have:=(hg hk').1.1; rw[hv] at this; cases this
   simp only[go_sem,hv,Jy hno]
  rcases hid:decide (l[k].id>1000000000) with _ | _
  rotate_left
  ·have hno:¬ Jc cs l k:=by intro hg; have:=(hg hk').2; simp at hid; omega
   simp only[go_sem,hv,hid,AA _ hk',hk',Jy hno]
  have hid':l[k].id≤1000000000:=by simp at hid; omega
  rcases Nat.eq_zero_or_pos k with hz | hz
  ·have hp:decide ((k:Int)>0)=false:=by simp; omega
   simp only[go_sem,hv,hid,hp,AA _ hk',hk',wrap_i64 (n:=(k:Int)+1) (by omega) (by omega)]
   exact⟨k+1,⟨rfl,rfl⟩,rfl,⟨by omega,hnext fun _=>⟨⟨hv,fun h0=>by omega⟩,hid'⟩⟩,by omega⟩
  ·have hp:decide ((k:Int)>0)=true:=by simp; omega
   have hk1:k-1<l.length:=by omega
   have hw1:IntKind.i64.wrap ((k:Int)-1)=((k-1:Nat):Int):=by rw[wrap_i64 (by omega) (by omega)]; omega
   rcases hq:decide (l[k-1].id≥l[k].id) with _ | _
   ·simp only[go_sem,hv,hid,hp,hw1,AA _ hk',AA _ hk1,hk',hk1,hq,wrap_i64 (n:=(k:Int)+1) (by omega) (by omega)]
    exact⟨k+1,⟨rfl,rfl⟩,rfl,⟨by omega,hnext fun _=>⟨⟨hv,fun _=>by simp at hq; omega⟩,hid'⟩⟩,by omega⟩
   ·have hno:¬ Jc cs l k:=by intro hg; have:=(hg hk').1.2 hz; simp at hq; omega
    simp only[go_sem,hv,hid,hp,hw1,AA _ hk',AA _ hk1,hk',hk1,hq,Jy hno]
 ·have hk':k=l.length:=by simp at h; omega
  subst hk'
  simp only[go_sem,V5 hf,hc,h12',Bool.and_true]
theorem P6 (cs:List Int) (l:List DRow) (hl:l.length≤1048576):Ctr Tryz.prog 150 [.c (.sl (cs.map intC)),.c (.sl (l.map DRow.c))] [.val (.c (.v (.bool (CG cs l))))]:=by
 refine Ctr.mk Tryz.call150 Tryz.func150 rfl mixed Tryz.ntmps150 Tryz.results150 (by kernel_rfl) rfl fun hw=>?_
 simp only[go_sem]
 refine LoopU.mk 0 (A:=Nat) (fun x=>[(5,.c (.v (.int .i64 (x))))]) (fun _=>[]) (fun k=>k≤l.length∧∀ i,i<k→Jc cs l i) (fun k=>l.length-k) 0 ⟨⟨rfl,rfl⟩,rfl,Nat.zero_le _,fun i h=>by omega⟩ ?_
 rintro k ⟨hk,hf⟩
 simp only[go_sem]
 refine cndC.mk (fun h=>?_) (fun h=>?_)
 ·have hk':k<l.length:=by simpa using h
  have hnext:Jc cs l k→∀ i,i<k+1→Jc cs l i:=by
   intro hg i hi
   by_cases e:i=k
   ·subst e; exact hg
   ·exact hf i (by omega)
  simp only[go_sem,AA _ hk']
  refine DrawK.mk ?_
  simp only[go_sem,AA _ hk',hk']
  refine CallF.mk _ (by simpa only[go_sem] using Yt cs l[k]) ?_
  rcases hv:rowOk cs l[k] with _ | _
  ·have hno:¬ Jc cs l k:=by intro hg; have:=(hg hk').1.1; rw[hv] at this; cases this
   simp only[go_sem,hv,Jy hno]
  rcases hid:decide (l[k].id>1000000000) with _ | _
  rotate_left
  ·have hno:¬ Jc cs l k:=by intro hg; have:=(hg hk').2; simp at hid; omega
   simp only[go_sem,hv,hid,AA _ hk',hk',Jy hno]
  have hid':l[k].id≤1000000000:=by simp at hid; omega
  rcases Nat.eq_zero_or_pos k with hz | hz
  ·have hp:decide ((k:Int)>0)=false:=by simp; omega
   simp only[go_sem,hv,hid,hp,AA _ hk',hk',wrap_i64 (n:=(k:Int)+1) (by omega) (by omega)]
   exact⟨k+1,⟨rfl,rfl⟩,rfl,⟨by omega,hnext fun _=>⟨⟨hv,fun h0=>by omega⟩,hid'⟩⟩,by omega⟩
  ·have hp:decide ((k:Int)>0)=true:=by simp; omega
   have hk1:k-1<l.length:=by omega
   have hw1:IntKind.i64.wrap ((k:Int)-1)=((k-1:Nat):Int):=by rw[wrap_i64 (by omega) (by omega)]; omega
   rcases hq:decide (l[k-1].id≥l[k].id) with _ | _
   ·simp only[go_sem,hv,hid,hp,hw1,AA _ hk',AA _ hk1,hk',hk1,hq,wrap_i64 (n:=(k:Int)+1) (by omega) (by omega)]
    exact⟨k+1,⟨rfl,rfl⟩,rfl,⟨by omega,hnext fun _=>⟨⟨hv,fun _=>by simp at hq; omega⟩,hid'⟩⟩,by omega⟩
   ·have hno:¬ Jc cs l k:=by intro hg; have:=(hg hk').1.2 hz; simp at hq; omega
    simp only[go_sem,hv,hid,hp,hw1,AA _ hk',AA _ hk1,hk',hk1,hq,Jy hno]
 ·have hk':k=l.length:=by simp at h; omega
  subst hk'
  simp only[go_sem]
  refine CallK.mk _ (TM _) fun _=>?_
  have h12:decide ((l.length:Int)≤12)=decide (l.length≤12):=by rw[decide_eq_decide]; omega
  rcases hc:FI cs with _ | _<;>simp only[go_sem,V5 hf,hc,h12,Bool.false_and,Bool.true_and]
theorem V6 {cs:List Int} {l:List DRow} (h:CG cs l=true):(cs.length≤3∧1≤cs.length)∧l.length≤12∧∀ r∈l,0≤r.id∧r.id≤1000000000∧fits cs r.l=true:=by
 simp only[CG,Bool.and_eq_true,decide_eq_true_eq] at h
 obtain⟨⟨h1,h2⟩,h3,h4⟩:=h
 simp only[FI,Bool.and_eq_true] at h1
 refine⟨by have:=h1.2; simp[BQ] at this; omega,h2,fun r hr=>?_⟩
 obtain⟨i,hi,rfl⟩:=List.getElem_of_mem hr
 simp only[OE,decide_eq_true_eq] at h3
 have:=(h3 i hi).1
 simp only[rowOk,Bool.and_eq_true,decide_eq_true_eq] at this
 exact⟨this.1,h4 _ hr,this.2⟩
theorem nO (l:List DVal):(U8 l).length≤1006:=by
 have h1:=Ci ((Ah l).length:Int)
 have h2:=Un l
 simp only[U8,List.length_append]; omega
theorem Z9 {cs:List Int} {l:List DRow} (h:CG cs l=true):Bq cs l=Kv (l.map DRow.id)++(if l = [] then [] else((List.range cs.length).map fun(k:Nat)=>U8 (B_ l (k:Int))).flatten):=if_pos h
noncomputable def Jz (l:List DRow) (k:Nat):List Int:=if l = [] then [] else((List.range k).map fun(k:Nat)=>U8 (B_ l (k:Int))).flatten
theorem eF (l:List DRow):Jz l 0 = []:=by unfold Jz; split<;>rfl
theorem MI (cs:List Int) (l:List DRow) (hl:fitS BI l):Ctr Tryz.prog 163 [.c (.sl (cs.map intC)),.c (.sl (l.map DRow.c))] [.own 5 1 ((Bq cs l).map byteC) true]:=by
 refine Ctr.mk Tryz.call163 Tryz.func163 rfl mixed Tryz.ntmps163 Tryz.results163 (by kernel_rfl) rfl fun hw=>?_
 simp only[go_sem]
 refine CallK.mk _ (Kq cs l hl.1) fun _=>?_
 rcases h1:CG cs l with _ | _
 ·have e:Bq cs l = []:=if_neg (by rw[h1]; simp)
  rw[e]
  simp only[go_sem,h1]
  try simp[AU,AC,CY]
 obtain⟨f1,f2,f3⟩:=V6 h1
 rw[Z9 h1]
 simp only[go_sem,h1]
 refine LoopH.mk [15] (A:=Nat) (fun x=>[(18,.c (.v (.int .i64 (x)))),(5,.c (.ref 0))]) (fun x=>[⟨3,1,((l.take x).map DRow.id).map intC,true,true⟩]) (fun x=>x≤l.length) (fun x=>l.length-x) 0 (Head.sel [(0,false)] ⟨rfl,rfl,rfl,trivial⟩ rfl) (Nat.zero_le _) ?_
 rintro i hi
 simp only[go_sem]
 refine cndC.mk (fun h=>?_) (fun h=>?_)
 ·have hi':i<l.length:=by simp at h; omega
  have hl2:i+1≤2147483648:=by omega
  simp only[go_sem,AA _ hi',hl2,List.length_take,Nat.min_eq_left hi,wrap_i64 (n:=(i:Int)+1) (by omega) (by omega)]
  exact⟨i+1,Head.sel [(3,false)] ⟨rfl,rfl,by rw[← EP]; exact Eh _,trivial⟩ (by rw[Hm _ hi',EP]; rfl),hi',by omega⟩
 ·have hi':i=l.length:=by simp at h; omega
  subst hi'
  simp only[go_sem,List.take_length]
  refine CallK.mk _ (VG [] (l.map DRow.id) (by simp; omega) (by simp) fun n hn=>by
   obtain⟨r,hr,rfl⟩:=List.mem_map.1 hn
   exact(CX _).2 ⟨by have:=(f3 r hr).1; omega,(f3 r hr).2.1⟩) fun _=>?_
  rw[List.nil_append]
  simp only[go_sem]
  have hnl:=Qc (l.map DRow.id)
  have hnb:=Ci ((l.map DRow.id).length:Int)
  have hnl2:(Kv (l.map DRow.id)).length≤65:=by
   simp only[Kv,List.length_append]
   rw[List.length_map] at hnl
   omega
  have hG:∀ k,(Jz l k).length≤1006*k:=fun k=>by
   unfold Jz
   split
   ·simp
   ·have:=MF (fun(k:Nat)=>U8 (B_ l (k:Int))) 1006 (List.range k) fun x _=>nO _
    rw[List.length_range] at this
    exact this
  have hfin:Kv (l.map DRow.id)++(if l = [] then [] else((List.range cs.length).map fun(k:Nat)=>U8 (B_ l (k:Int))).flatten)=Kv (l.map DRow.id)++Jz l cs.length:=rfl
  rw[hfin]
  refine LoopH.mk [29,28,5] (A:=Nat) (fun x=>[(32,.c (.v (.int .i64 (x)))),(8,.c (.ref 0))]) (fun x=>[⟨5,1,(Kv (l.map DRow.id)++Jz l x).map byteC,true,true⟩]) (fun x=>x≤cs.length) (fun x=>cs.length-x) 0 (Head.sel [(1,false)] ⟨rfl,rfl,Df _,trivial⟩ (by rw[eF,List.append_nil]; rfl)) (Nat.zero_le _) ?_
  rintro k hk
  simp only[go_sem]
  refine cndC.mk (fun h=>?_) (fun h=>?_)
  ·have hk':k<cs.length:=by simp at h; omega
   have hGk:=hG k
   rcases h2:decide ((l.length:Int)>0) with _ | _
   ·have h2':l = []:=by
     apply List.eq_nil_of_length_eq_zero
     simp at h2; simp[h2]
    have hs:Jz l (k+1)=Jz l k:=by unfold Jz; rw[if_pos h2',if_pos h2']
    simp only[go_sem,h2,wrap_i64 (n:=(k:Int)+1) (by omega) (by omega)]
    exact⟨k+1,Head.sel [(0,false)] ⟨rfl,rfl,Df _,trivial⟩ (by rw[hs]; rfl),hk',by omega⟩
   ·have h2':l≠ []:=by rintro rfl; simp at h2
    have hcl:(B_ l (k:Int)).length≤l.length:=List.length_filterMap_le _ _
    have hel:=Un (B_ l (k:Int))
    have hs:Jz l (k+1)=Jz l k++(Dh (Ah (B_ l (k:Int))).length++Ah (B_ l (k:Int))):=by
     unfold Jz
     rw[if_neg h2',if_neg h2',List.range_succ]
     simp only[List.map_append,List.flatten_append,List.map_cons,List.map_nil,List.flatten_cons,List.flatten_nil,List.append_nil,U8]
    simp only[go_sem,h2]
    refine CallK.mk _ (Oi l (k:Int) hl.big) fun _=>?_
    simp only[go_sem]
    refine CallK.mk _ (DV (B_ l (k:Int)) (by omega)) fun _=>?_
    simp only[go_sem]
    refine CallK.mk _ (EO _ _ (by simp only[List.length_append]; omega)) fun _=>?_
    rw[G7 ((CX _).2 ⟨by omega,by omega⟩)]
    have hnb2:=Ci ((Ah (B_ l (k:Int))).length:Int)
    have hl3:(Kv (l.map DRow.id)).length+(Jz l k).length+(Dh (Ah (B_ l (k:Int))).length).length+(Ah (B_ l (k:Int))).length≤2147483648:=by omega
    simp only[go_sem,hl3,Eg,MB,wrap_i64 (n:=(k:Int)+1) (by omega) (by omega)]
    exact⟨k+1,Head.sel [(4,false)] ⟨rfl,rfl,Df _,trivial⟩ (by rw[hs]; simp only[List.append_assoc]; rfl),hk',by omega⟩
  ·have hk':k=cs.length:=by simp at h; omega
   subst hk'
   simp only[go_sem]
   try simp[AU,AC]
end Go.Proofs.YthoeeoddgkjkkaaGreat
