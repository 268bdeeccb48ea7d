/- Walks: columns of dictionaries. -/
import Derived.Test.YthoeeoddgkjkkaaGreatYo
import Derived.Test.YthoeeoddgkjkkaaGreatYk
import Derived.Test.YthoeeoddgkjkkaaGreatYm
namespace Go.Proofs.YthoeeoddgkjkkaaGreat
set_option linter.unusedSimpArgs false
set_option linter.unusedVariables false
open Go.Vm
set_option maxHeartbeats 2000000
set_option maxRecDepth 10000
theorem MH (l:List DVal):∃ p,places (BV l) l=some p∧p.length=l.length:=by
 have key:∀ (d l:List DVal),(∀ x∈l,x∈d)→∃ p,places d l=some p∧p.length=l.length:=by
  intro d l
  induction l with
  | nil=>intro _; exact⟨[],rfl,rfl⟩
  | cons v l ih =>
   intro h
   obtain⟨p,h1,h2⟩:=ih fun x hx=>h x (List.mem_cons_of_mem v hx)
   have key2:∀ (d:List DVal) (k:Nat),v∈d→∃ i,placeOf v d k=some i:=by
    intro d
    induction d with
    | nil=>intro k hk; cases hk
    | cons x r ih =>
     intro k hk
     rw[Ic]
     split
     ·exact⟨_,rfl⟩
     ·rename_i hne
      rcases List.mem_cons.1 hk with rfl | hk
      ·exact absurd ((Gy v v).2 rfl) hne
      ·exact ih (k+1) hk
   obtain⟨i,hi⟩:=key2 d 0 (h v (by simp))
   exact⟨i::p,by rw[places_cons,hi,h1],by simp[h2]⟩
 exact key _ _ fun x hx=>(IA l x).2 hx
theorem Oc {l:List DVal} (h:typeOf l≠0) {p:List Int} (hp:places (BV l) l=some p):Cm l=Dh (BV l).length++(Gw (BV l)++DL p (Af ((BV l).length-1))):=by
 unfold Cm
 rw[if_neg h,hp]; rfl
theorem Nr (l:List DVal) (hl:l.length≤1048576):Ctr Tryz.prog 208 [.c (.sl (l.map DVal.c))] [.own 5 1 ((Cm l).map byteC) true]:=by
 refine Ctr.mk Tryz.call208 Tryz.func208 rfl mixed Tryz.ntmps208 Tryz.results208 (by kernel_rfl) rfl fun hw=>?_
 simp only[go_sem]
 refine CallK.mk _ (DU l hl) fun _=>?_
 rcases h1:typeOf l==0 with _ | _
 rotate_left
 ·have h1':typeOf l=0:=by simpa using h1
  have e:Cm l = []:=if_pos h1'
  rw[e]
  simp only[go_sem,h1]
  try simp[AU,AC,CY]
 have h1':typeOf l≠0:=by simpa using h1
 obtain⟨q1,q2,q3⟩:=Bv h1'
 have hdl:=Jv l
 obtain⟨p,hp,hpl⟩:=MH l
 rw[Oc h1' hp]
 simp only[go_sem,h1]
 refine CallK.mk _ (dh l hl) fun _=>?_
 simp only[go_sem]
 have hps:=Xz (BV l) l hl (by omega)
 rw[hp] at hps
 simp only[Su] at hps
 refine CallK.mk _ hps fun _=>?_
 have hd0:0<(BV l).length:=by
  have:l[0]∈BV l:=(IA l _).2 (List.getElem_mem (by omega))
  exact List.length_pos_of_mem this
 have hq:=Ci ((BV l).length:Int)
 have hdv:∀ v∈BV l,BD v=true:=fun v hv=>(q3 v ((IA l v).1 hv)).1
 simp only[go_sem]
 refine CallK.mk _ (G6 [] ((BV l).length:Int) (by simp)) fun _=>?_
 rw[G7 (by rw[CX]; omega),List.nil_append]
 simp only[go_sem]
 have hvl:=fun i=>Hf (l:=(BV l).take i) fun v hv=>hdv v (List.mem_of_mem_take hv)
 refine LoopH.mk [20,23] (A:=Nat) (fun x=>[(7,.c (.v (.int .i64 (x)))),(6,.c (.ref 1))]) (fun x=>[⟨3,1,p.map intC,true,true⟩,⟨5,1,(Dh (BV l).length++Gw ((BV l).take x)).map byteC,true,true⟩]) (fun x=>x≤(BV l).length) (fun x=>(BV l).length-x) 0 (Head.sel [(0,false),(2,false)] ⟨rfl,rfl,Eh _,Df _,trivial⟩ (by simp only[List.take_zero,Gw,List.map_nil,List.flatten_nil,List.append_nil]; rfl)) (Nat.zero_le _) ?_
 rintro i hi
 simp only[go_sem]
 refine cndC.mk (fun h=>?_) (fun h=>?_)
 ·have hi':i<(BV l).length:=by simp at h; omega
  have hvi:=hvl i
  rw[List.length_take] at hvi
  simp only[go_sem,AA _ hi']
  refine CallK.mk _ (KU _ _ (by simp only[List.length_append]; omega)) fun _=>?_
  rw[NH (hdv _ (List.getElem_mem hi')),List.append_assoc,← KW hi']
  simp only[go_sem,wrap_i64 (n:=(i:Int)+1) (by omega) (by omega)]
  exact⟨i+1,Head.sel [(0,false),(2,false)] ⟨rfl,rfl,Eh _,Df _,trivial⟩ rfl,hi',by omega⟩
 ·have hpb:=F6 p (Af ((BV l).length-1))
  have hw1:IntKind.i64.wrap (((BV l).length:Int)-1)=((BV l).length:Int)-1:=wrap_i64 (by omega) (by omega)
  have hvi:=hvl (BV l).length
  rw[List.length_take] at hvi
  have hl3:(Dh (BV l).length).length+(Gw (BV l)).length+(DL p (Af ((BV l).length-1))).length≤2147483648:=by
   rw[List.take_length] at hvi; omega
  have hi':i=(BV l).length:=by simp at h; omega
  subst hi'
  simp only[go_sem,List.take_length,hw1]
  refine CallK.mk _ (GL _) fun _=>?_
  simp only[go_sem,hw1]
  refine CallK.mk _ (UZ p (Af ((BV l).length-1)) (by omega)) fun _=>?_
  simp only[go_sem,hl3,Eg,List.append_assoc,MB]
  try simp[AU,AC]
theorem Jh (l:List DVal) (hl:l.length≤1048576):Ctr Tryz.prog 224 [.c (.sl (l.map DVal.c))] [.own 5 1 ((Cm l).map byteC) true]:=by
 refine Ctr.mk Tryz.call224 Tryz.func224 rfl mixed Tryz.ntmps224 Tryz.results224 (by kernel_rfl) rfl fun hw=>?_
 simp only[go_sem]
 refine CallK.mk _ (BP l hl) fun _=>?_
 rcases h1:typeOf l==0 with _ | _
 rotate_left
 ·have h1':typeOf l=0:=by simpa using h1
  have e:Cm l = []:=if_pos h1'
  rw[e]
  simp only[go_sem,h1]
  try simp[AU,AC,CY]
 have h1':typeOf l≠0:=by simpa using h1
 obtain⟨q1,q2,q3⟩:=Bv h1'
 have hdl:=Jv l
 obtain⟨p,hp,hpl⟩:=MH l
 rw[Oc h1' hp]
 simp only[go_sem,h1]
 refine CallK.mk _ (d_ l hl) fun _=>?_
 have hd0:0<(BV l).length:=by
  have:l[0]∈BV l:=(IA l _).2 (List.getElem_mem (by omega))
  exact List.length_pos_of_mem this
 have hq:=Ci ((BV l).length:Int)
 have hdv:∀ v∈BV l,BD v=true:=fun v hv=>(q3 v ((IA l v).1 hv)).1
 have hps:=Xy (BV l) l hl (by omega)
 rw[hp] at hps
 simp only[Su] at hps
 simp only[go_sem]
 refine CallK.mk _ (EO [] ((BV l).length:Int) (by simp)) fun _=>?_
 rw[G7 (by rw[CX]; omega),List.nil_append]
 simp only[go_sem]
 have hvl:=fun i=>Hf (l:=(BV l).take i) fun v hv=>hdv v (List.mem_of_mem_take hv)
 refine LoopH.mk [9,16,19] (A:=Nat) (fun x=>[(22,.c (.v (.int .i64 (x)))),(3,.c (.ref 0))]) (fun x=>[⟨5,1,(Dh (BV l).length++Gw ((BV l).take x)).map byteC,true,true⟩]) (fun x=>x≤(BV l).length) (fun x=>(BV l).length-x) 0 (Head.sel [(1,false)] ⟨rfl,rfl,Df _,trivial⟩ (by simp only[List.take_zero,Gw,List.map_nil,List.flatten_nil,List.append_nil]; rfl)) (Nat.zero_le _) ?_
 rintro i hi
 simp only[go_sem]
 refine cndC.mk (fun h=>?_) (fun h=>?_)
 ·have hi':i<(BV l).length:=by simp at h; omega
  have hvi:=hvl i
  rw[List.length_take] at hvi
  simp only[go_sem,AA _ hi']
  refine CallK.mk _ (KT _ _ (by simp only[List.length_append]; omega)) fun _=>?_
  rw[NH (hdv _ (List.getElem_mem hi')),List.append_assoc,← KW hi']
  simp only[go_sem,wrap_i64 (n:=(i:Int)+1) (by omega) (by omega)]
  exact⟨i+1,Head.sel [(2,false)] ⟨rfl,rfl,Df _,trivial⟩ rfl,hi',by omega⟩
 ·have hpb:=F6 p (Af ((BV l).length-1))
  have hw1:IntKind.i64.wrap (((BV l).length:Int)-1)=((BV l).length:Int)-1:=wrap_i64 (by omega) (by omega)
  have hvi:=hvl (BV l).length
  rw[List.length_take] at hvi
  have hl3:(Dh (BV l).length).length+(Gw (BV l)).length+(DL p (Af ((BV l).length-1))).length≤2147483648:=by
   rw[List.take_length] at hvi; omega
  have hi':i=(BV l).length:=by simp at h; omega
  subst hi'
  simp only[go_sem,List.take_length]
  refine CallK.mk _ hps fun _=>?_
  simp only[go_sem,hw1]
  refine CallK.mk _ (Ht _) fun _=>?_
  simp only[go_sem,hw1]
  refine CallK.mk _ (UY p (Af ((BV l).length-1)) (by omega)) fun _=>?_
  simp only[go_sem,hl3,Eg,List.append_assoc,MB]
  try simp[AU,AC]
theorem Rn (kind:Int) (l:List DVal) (hl:l.length≤1048576):Ctr Tryz.prog 213 [.c (.v (.int .i64 (kind))),.c (.sl (l.map DVal.c))] [.own 5 1 ((DJ kind l).map byteC) true]:=by
 refine Ctr.mk Tryz.call213 Tryz.func213 rfl mixed Tryz.ntmps213 Tryz.results213 (by kernel_rfl) rfl fun hw=>?_
 unfold DJ
 rcases h0:kind==0 with _ | _
 rotate_left
 ·rw[if_pos (by simpa using h0)]
  simp only[go_sem,h0]
  refine CallK.mk _ (MC l hl) fun _=>?_
  simp only[go_sem]
  try simp[AU,AC]
 rw[if_neg (by simpa using h0)]
 rcases h1:kind==1 with _ | _
 rotate_left
 ·rw[if_pos (by simpa using h1)]
  simp only[go_sem,h0,h1]
  refine CallK.mk _ (Nq l hl) fun _=>?_
  simp only[go_sem]
  try simp[AU,AC]
 rw[if_neg (by simpa using h1)]
 rcases h2:kind==2 with _ | _
 rotate_left
 ·rw[if_pos (by simpa using h2)]
  simp only[go_sem,h0,h1,h2]
  refine CallK.mk _ (Nr l hl) fun _=>?_
  simp only[go_sem]
  try simp[AU,AC]
 rw[if_neg (by simpa using h2)]
 rcases h3:kind==3 with _ | _
 rotate_left
 ·rw[if_pos (by simpa using h3)]
  simp only[go_sem,h0,h1,h2,h3]
  refine CallK.mk _ (MG l hl) fun _=>?_
  simp only[go_sem]
  try simp[AU,AC]
 rw[if_neg (by simpa using h3)]
 simp only[go_sem,h0,h1,h2,h3]
 try simp[AU,AC,CY]
theorem IE (kind:Int) (l:List DVal) (hl:l.length≤1048576):Ctr Tryz.prog 229 [.c (.v (.int .i64 (kind))),.c (.sl (l.map DVal.c))] [.own 5 1 ((DJ kind l).map byteC) true]:=by
 refine Ctr.mk Tryz.call229 Tryz.func229 rfl mixed Tryz.ntmps229 Tryz.results229 (by kernel_rfl) rfl fun hw=>?_
 unfold DJ
 rcases h0:kind==0 with _ | _
 rotate_left
 ·rw[if_pos (by simpa using h0)]
  simp only[go_sem,h0]
  refine CallK.mk _ (JB l hl) fun _=>?_
  simp only[go_sem]
  try simp[AU,AC]
 rw[if_neg (by simpa using h0)]
 rcases h1:kind==1 with _ | _
 rotate_left
 ·rw[if_pos (by simpa using h1)]
  simp only[go_sem,h0,h1]
  refine CallK.mk _ (Np l hl) fun _=>?_
  simp only[go_sem]
  try simp[AU,AC]
 rw[if_neg (by simpa using h1)]
 rcases h2:kind==2 with _ | _
 rotate_left
 ·rw[if_pos (by simpa using h2)]
  simp only[go_sem,h0,h1,h2]
  refine CallK.mk _ (Jh l hl) fun _=>?_
  simp only[go_sem]
  try simp[AU,AC]
 rw[if_neg (by simpa using h2)]
 rcases h3:kind==3 with _ | _
 rotate_left
 ·rw[if_pos (by simpa using h3)]
  simp only[go_sem,h0,h1,h2,h3]
  refine CallK.mk _ (JC l hl) fun _=>?_
  simp only[go_sem]
  try simp[AU,AC]
 rw[if_neg (by simpa using h3)]
 simp only[go_sem,h0,h1,h2,h3]
 try simp[AU,AC,CY]
noncomputable def IR (l:List DVal):Nat→Int
 | 0=>0
 | x+1=>if(x=2→typeOf l=1)∧(DJ ((x:Int)+1) l).length<(DJ (IR l x) l).length then(x:Int)+1 else IR l x
theorem dm (l:List DVal):bk3 l=IR l 3:=by
 have h1:bk1 l=IR l 1:=by simp[IR,bk1]
 have h2:bk2 l=IR l 2:=by
  rw[bk2,h1]
  show _=(if((1:Nat)=2→typeOf l=1)∧(DJ (((1:Nat):Int)+1) l).length<(DJ (IR l 1) l).length then((1:Nat):Int)+1 else IR l 1)
  simp
 rw[bk3,h2]
 show _=(if((2:Nat)=2→typeOf l=1)∧(DJ (((2:Nat):Int)+1) l).length<(DJ (IR l 2) l).length then((2:Nat):Int)+1 else IR l 2)
 simp
theorem Pz {l:List DVal} {x:Nat} (h1:x=2→typeOf l=1) (h2:(DJ ((x:Int)+1) l).length<(DJ (IR l x) l).length):IR l (x+1)=(x:Int)+1:=if_pos ⟨h1,h2⟩
theorem X6 {l:List DVal} {x:Nat} (h1:x=2) (h2:typeOf l≠1):IR l (x+1)=IR l x:=if_neg fun q=>h2 (q.1 h1)
theorem P5 {l:List DVal} {x:Nat} (h2:¬ (DJ ((x:Int)+1) l).length<(DJ (IR l x) l).length):IR l (x+1)=IR l x:=if_neg fun q=>h2 q.2
theorem Ul (l:List DVal) (hl:l.length≤1048576):Ctr Tryz.prog 212 [.c (.sl (l.map DVal.c))] [.val (.c (.v (.int .i64 (Aj l))))]:=by
 refine Ctr.mk Tryz.call212 Tryz.func212 rfl mixed Tryz.ntmps212 Tryz.results212 (by kernel_rfl) rfl fun hw=>?_
 simp only[go_sem]
 refine CallK.mk _ (DU l hl) fun _=>?_
 rcases h1:typeOf l==0 with _ | _
 rotate_left
 ·have h1':typeOf l=0:=by simpa using h1
  have e:Aj l = -1:=if_pos h1'
  rw[e]
  simp only[go_sem,h1]
 have e:Aj l=IR l 3:=by rw[← dm]; exact if_neg (by simpa using h1)
 have e0:DK l=DJ 0 l:=rfl
 rw[e]
 simp only[go_sem,h1]
 refine CallK.mk _ (MC l hl) fun _=>?_
 simp only[go_sem]
 refine LoopH.mk [13] (A:=Nat) (fun x=>[(6,.c (.v (.int .i64 ((x:Int)+1)))),(5,.c (.v (.int .i64 ((DJ (IR l x) l).length:Int)))),(4,.c (.v (.int .i64 (IR l x))))]) (fun _=>[]) (fun x=>x≤3) (fun x=>3-x) 0 (Head.sel [] ⟨rfl,rfl,trivial⟩ rfl) (Nat.zero_le _) ?_
 rintro x hx
 simp only[go_sem]
 refine cndC.mk (fun h=>?_) (fun h=>?_)
 ·have hx':x<3:=by simp at h; omega
  simp only[go_sem]
  refine CallK.mk _ (Rn _ l hl) fun _=>?_
  rcases h2:((x:Int)+1 != 3) with _ | _<;>rcases h3:(typeOf l==1) with _ | _<;>rcases h4:decide (((DJ ((x:Int)+1) l).length:Int)<((DJ (IR l x) l).length:Int)) with _ | _<;>simp only[go_sem,h2,h3,h4,wrap_i64 (n:=(x:Int)+1+1) (by omega) (by omega)]
  ·have hb:IR l (x+1)=IR l x:=X6 (by simp at h2; omega) (by simpa using h3)
   exact⟨x+1,Head.sel [] ⟨rfl,rfl,trivial⟩ (by rw[hb]; rfl),hx',by omega⟩
  ·have hb:IR l (x+1)=IR l x:=X6 (by simp at h2; omega) (by simpa using h3)
   exact⟨x+1,Head.sel [] ⟨rfl,rfl,trivial⟩ (by rw[hb]; rfl),hx',by omega⟩
  ·have hb:IR l (x+1)=IR l x:=P5 (by simpa using h4)
   exact⟨x+1,Head.sel [] ⟨rfl,rfl,trivial⟩ (by rw[hb]; rfl),hx',by omega⟩
  ·have hb:IR l (x+1)=(x:Int)+1:=Pz (fun _=>by simpa using h3) (by simpa using h4)
   exact⟨x+1,Head.sel [] ⟨rfl,rfl,trivial⟩ (by rw[hb]; rfl),hx',by omega⟩
  ·have hb:IR l (x+1)=IR l x:=P5 (by simpa using h4)
   exact⟨x+1,Head.sel [] ⟨rfl,rfl,trivial⟩ (by rw[hb]; rfl),hx',by omega⟩
  ·have hb:IR l (x+1)=(x:Int)+1:=Pz (fun q=>by simp at h2; omega) (by simpa using h4)
   exact⟨x+1,Head.sel [] ⟨rfl,rfl,trivial⟩ (by rw[hb]; rfl),hx',by omega⟩
  ·have hb:IR l (x+1)=IR l x:=P5 (by simpa using h4)
   exact⟨x+1,Head.sel [] ⟨rfl,rfl,trivial⟩ (by rw[hb]; rfl),hx',by omega⟩
  ·have hb:IR l (x+1)=(x:Int)+1:=Pz (fun q=>by simp at h2; omega) (by simpa using h4)
   exact⟨x+1,Head.sel [] ⟨rfl,rfl,trivial⟩ (by rw[hb]; rfl),hx',by omega⟩
 ·have hx':x=3:=by simp at h; omega
  subst hx'
  simp only[go_sem]
theorem Um (l:List DVal) (hl:l.length≤1048576):Ctr Tryz.prog 228 [.c (.sl (l.map DVal.c))] [.val (.c (.v (.int .i64 (Aj l))))]:=by
 refine Ctr.mk Tryz.call228 Tryz.func228 rfl mixed Tryz.ntmps228 Tryz.results228 (by kernel_rfl) rfl fun hw=>?_
 simp only[go_sem]
 refine CallK.mk _ (BP l hl) fun _=>?_
 rcases h1:typeOf l==0 with _ | _
 rotate_left
 ·have h1':typeOf l=0:=by simpa using h1
  have e:Aj l = -1:=if_pos h1'
  rw[e]
  simp only[go_sem,h1]
 have e:Aj l=IR l 3:=by rw[← dm]; exact if_neg (by simpa using h1)
 rw[e]
 simp only[go_sem,h1]
 refine LoopH.mk [] (A:=Nat) (fun x=>[(5,.c (.v (.int .i64 ((x:Int)+1)))),(4,.c (.v (.int .i64 (IR l x))))]) (fun _=>[]) (fun x=>x≤3) (fun x=>3-x) 0 (Head.sel [] ⟨rfl,rfl,trivial⟩ rfl) (Nat.zero_le _) ?_
 rintro x hx
 simp only[go_sem]
 refine cndC.mk (fun h=>?_) (fun h=>?_)
 ·have hx':x<3:=by simp at h; omega
  rcases h2:((x:Int)+1==3) with _ | _
  ·simp only[go_sem,h2]
   refine CallK.mk _ (IE _ l hl) fun _=>?_
   simp only[go_sem]
   refine CallK.mk _ (IE _ l hl) fun _=>?_
   rcases h4:decide (((DJ ((x:Int)+1) l).length:Int)<((DJ (IR l x) l).length:Int)) with _ | _<;>simp only[go_sem,h4,wrap_i64 (n:=(x:Int)+1+1) (by omega) (by omega)]
   ·have hb:IR l (x+1)=IR l x:=P5 (by simpa using h4)
    exact⟨x+1,Head.sel [] ⟨rfl,rfl,trivial⟩ (by rw[hb]; rfl),hx',by omega⟩
   ·have hb:IR l (x+1)=(x:Int)+1:=Pz (fun q=>by simp at h2; omega) (by simpa using h4)
    exact⟨x+1,Head.sel [] ⟨rfl,rfl,trivial⟩ (by rw[hb]; rfl),hx',by omega⟩
  ·rcases h3:(typeOf l != 1) with _ | _
   ·simp only[go_sem,h2,h3]
    refine CallK.mk _ (IE _ l hl) fun _=>?_
    simp only[go_sem]
    refine CallK.mk _ (IE _ l hl) fun _=>?_
    rcases h4:decide (((DJ ((x:Int)+1) l).length:Int)<((DJ (IR l x) l).length:Int)) with _ | _<;>simp only[go_sem,h4,wrap_i64 (n:=(x:Int)+1+1) (by omega) (by omega)]
    ·have hb:IR l (x+1)=IR l x:=P5 (by simpa using h4)
     exact⟨x+1,Head.sel [] ⟨rfl,rfl,trivial⟩ (by rw[hb]; rfl),hx',by omega⟩
    ·have hb:IR l (x+1)=(x:Int)+1:=Pz (fun _=>by simpa using h3) (by simpa using h4)
     exact⟨x+1,Head.sel [] ⟨rfl,rfl,trivial⟩ (by rw[hb]; rfl),hx',by omega⟩
   ·simp only[go_sem,h2,h3,wrap_i64 (n:=(x:Int)+1+1) (by omega) (by omega)]
    have hb:IR l (x+1)=IR l x:=X6 (by simp at h2; omega) (by simpa using h3)
    exact⟨x+1,Head.sel [] ⟨rfl,rfl,trivial⟩ (by rw[hb]; rfl),hx',by omega⟩
 ·have hx':x=3:=by simp at h; omega
  subst hx'
  simp only[go_sem]
theorem nN (l:List DVal):∀ x,0≤IR l x∧IR l x≤x
 | 0=>by simp[IR]
 | x+1=>by
  have:=nN l x
  rw[IR]
  split<;>omega
theorem Ro {l:List DVal} (h:typeOf l≠0):0≤Aj l∧Aj l≤3:=by
 have e:Aj l=IR l 3:=by rw[← dm]; exact if_neg h
 have:=nN l 3
 rw[e]; omega
theorem X7 (l:List DVal):(DK l).length≤448:=by
 unfold DK
 split
 ·simp
 ·rename_i h
  obtain⟨q1,q2,q3⟩:=Bv h
  have:=Hf fun v hv=>(q3 v hv).1
  omega
theorem Zx (l:List DVal):(Dt l).length≤1000:=by
 by_cases h:typeOf l=0
 ·rw[show Dt l = [] from if_pos h]; simp
 ·obtain⟨q1,q2,q3⟩:=Bv h
  rw[OZ l h]
  have h1:=Ci ((runs l).length:Int)
  have h2:=Jw l
  have h3:=MF Qg 12 (runs l) fun x hx=>by
   have hx':=IC hx
   have h1:=Ci x.2
   have h2:=Pq (q3 _ hx'.1).1
   simp only[Qg,List.length_append]; omega
  simp only[List.length_append]; omega
theorem Zy (l:List DVal):(Cm l).length≤1000:=by
 by_cases h:typeOf l=0
 ·rw[show Cm l = [] from if_pos h]; simp
 ·obtain⟨q1,q2,q3⟩:=Bv h
  obtain⟨p,hp,hpl⟩:=MH l
  rw[Oc h hp]
  have h1:=Ci ((BV l).length:Int)
  have h2:=Jv l
  have h3:=Hf (l:=BV l) fun v hv=>(q3 v ((IA l v).1 hv)).1
  have h4:=F6 p (Af ((BV l).length-1))
  simp only[List.length_append]; omega
theorem X8 (l:List DVal):(Bc l).length≤1000:=by
 by_cases h:typeOf l=1
 ·obtain⟨q1,q2,q3⟩:=Bv (l:=l) (by omega)
  have e:Bc l=Dh (BO l)++(BU (offsets l)::DL (offsets l) (BU (offsets l))):=if_neg (by omega)
  have hol:(offsets l).length=l.length:=by rw[offsets,if_neg (by omega)]; simp
  have h1:=Ci (BO l)
  have h4:=F6 (offsets l) (BU (offsets l))
  rw[e]
  simp only[List.length_append,List.length_cons]; omega
 ·rw[show Bc l = [] from if_pos h]; simp
theorem Qh (k:Int) (l:List DVal):(DJ k l).length≤1000:=by
 have h0:=X7 l
 have h1:=Zx l
 have h2:=Zy l
 have h3:=X8 l
 unfold DJ
 repeat' split
 all_goals first | omega | simp
theorem Un (l:List DVal):(Ah l).length≤1001:=by
 have:=Qh (Aj l) l
 unfold Ah
 split
 ·simp
 ·simp only[List.length_cons]; omega
theorem Ie (l:List DVal) (hl:l.length≤1048576):Ctr Tryz.prog 182 [.c (.sl (l.map DVal.c))] [.own 5 1 ((Ah l).map byteC) true]:=by
 refine Ctr.mk Tryz.call182 Tryz.func182 rfl mixed Tryz.ntmps182 Tryz.results182 (by kernel_rfl) rfl fun hw=>?_
 simp only[go_sem]
 refine CallK.mk _ (Ul l hl) fun _=>?_
 rcases h1:decide (Aj l<0) with _ | _
 rotate_left
 ·have e:Ah l = []:=if_pos (by simpa using h1)
  rw[e]
  simp only[go_sem,h1]
  try simp[AU,AC,CY]
 have h1':¬ Aj l<0:=by simpa using h1
 have e:Ah l=Aj l::DJ (Aj l) l:=if_neg h1'
 have ht:typeOf l≠0:=fun q=>h1' (by rw[show Aj l = -1 from if_pos q]; decide)
 have hk:=Ro ht
 have hw1:IntKind.u8.wrap (Aj l)=Aj l:=wrap_u8 (by omega) (by omega)
 rw[e]
 simp only[go_sem,h1,hw1]
 have hel:=Qh (Aj l) l
 have hl2:1+(DJ (Aj l) l).length≤2147483648:=by omega
 have hl3:(DJ (Aj l) l).length+1≤2147483648:=by omega
 refine CallK.mk _ (Rn (Aj l) l hl) fun _=>?_
 simp only[go_sem,hl2,hl3,Eg]
 try simp[AU,AC,byteC,hl2,hl3]
 exact Bz (Aj l::DJ (Aj l) l)
theorem DV (l:List DVal) (hl:l.length≤1048576):Ctr Tryz.prog 193 [.c (.sl (l.map DVal.c))] [.own 5 1 ((Ah l).map byteC) true]:=by
 refine Ctr.mk Tryz.call193 Tryz.func193 rfl mixed Tryz.ntmps193 Tryz.results193 (by kernel_rfl) rfl fun hw=>?_
 simp only[go_sem]
 refine CallK.mk _ (Um l hl) fun _=>?_
 rcases h1:decide (Aj l<0) with _ | _
 rotate_left
 ·have e:Ah l = []:=if_pos (by simpa using h1)
  rw[e]
  simp only[go_sem,h1]
  try simp[AU,AC,CY]
 have h1':¬ Aj l<0:=by simpa using h1
 have e:Ah l=Aj l::DJ (Aj l) l:=if_neg h1'
 have ht:typeOf l≠0:=fun q=>h1' (by rw[show Aj l = -1 from if_pos q]; decide)
 have hk:=Ro ht
 have hw1:IntKind.u8.wrap (Aj l)=Aj l:=wrap_u8 (by omega) (by omega)
 rw[e]
 simp only[go_sem,h1,hw1]
 have hel:=Qh (Aj l) l
 have hl2:1+(DJ (Aj l) l).length≤2147483648:=by omega
 have hl3:(DJ (Aj l) l).length+1≤2147483648:=by omega
 refine CallK.mk _ (IE (Aj l) l hl) fun _=>?_
 simp only[go_sem,hl2,hl3,Eg]
 try simp[AU,AC,byteC,hl2,hl3]
 exact Bz (Aj l::DJ (Aj l) l)
end Go.Proofs.YthoeeoddgkjkkaaGreat
