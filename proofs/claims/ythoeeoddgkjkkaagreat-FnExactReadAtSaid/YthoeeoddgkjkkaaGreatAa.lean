/- Walks: comparing values, zones of values, comparing rows and results. -/
import Derived.Test.YthoeeoddgkjkkaaGreatIa
import Derived.Test.YthoeeoddgkjkkaaGreatVmXa
namespace Go.Proofs.YthoeeoddgkjkkaaGreat
set_option linter.unusedSimpArgs false
set_option linter.unusedVariables false
open Go.Vm
set_option maxHeartbeats 2000000
set_option maxRecDepth 10000
def Bi (a b:DVal):Bool:=if(a.ty != b.ty)=true then decide (a.ty<b.ty) else if(a.n != b.n)=true then decide (a.n<b.n) else Op.bytesLess a.s.toList b.s.toList
def Ik (a b:DVal):Bool:=(a.ty==b.ty)&&((a.n==b.n)&&(a.s.toList==b.s.toList))
theorem ER (a b:DVal):Ctr Tryz.prog 170 [.agg a.c,.agg b.c] [.val (.c (.v (.bool (Bi a b))))]:=by
 refine Ctr.mk Tryz.call170 Tryz.func170 rfl mixed Tryz.ntmps170 Tryz.results170 (by kernel_rfl) rfl fun hw=>?_
 rcases h1:a.ty != b.ty with _ | _<;>rcases h2:a.n != b.n with _ | _<;>simp only[go_sem,h1,h2,Bi]
theorem FD (a b:DVal):Ctr Tryz.prog 172 [.agg a.c,.agg b.c] [.val (.c (.v (.bool (Bi a b))))]:=by
 refine Ctr.mk Tryz.call172 Tryz.func172 rfl mixed Tryz.ntmps172 Tryz.results172 (by kernel_rfl) rfl fun hw=>?_
 rcases h1:a.ty != b.ty with _ | _<;>rcases h2:a.n != b.n with _ | _<;>simp only[go_sem,h1,h2,Bi]
def holds1 (op:Int) (a b:DVal):Bool:=
 if(op==1)=true then Bi a b else if(op==2)=true then !Bi b a else if(op==3)=true then Ik a b else if(op==4)=true then !Ik a b else if(op==5)=true then !Bi a b else if(op==6)=true then Bi b a else false
theorem WC (op:Int) (a b:DVal):Ctr Tryz.prog 199 [.c (.v (.int .i64 (op))),.agg a.c,.agg b.c] [.val (.c (.v (.bool (holds1 op a b))))]:=by
 refine Ctr.mk Tryz.call199 Tryz.func199 rfl mixed Tryz.ntmps199 Tryz.results199 (by kernel_rfl) rfl fun hw=>?_
 rcases h1:op==1 with _ | _
 rotate_left
 ·simp only[go_sem,h1]
  refine CallK.mk _ (by simpa only[go_sem] using ER a b) fun _=>?_
  simp only[go_sem,holds1,h1]
 rcases h2:op==2 with _ | _
 rotate_left
 ·simp only[go_sem,h1,h2]
  refine CallK.mk _ (by simpa only[go_sem] using ER b a) fun _=>?_
  simp only[go_sem,holds1,h1,h2]
 rcases h3:op==3 with _ | _
 rotate_left
 ·simp only[go_sem,h1,h2,h3]
  simp only[go_sem,holds1,h1,h2,h3,Ik,Jd,P9]
 rcases h4:op==4 with _ | _
 rotate_left
 ·simp only[go_sem,h1,h2,h3,h4]
  simp only[go_sem,holds1,h1,h2,h3,h4,Ik,Jd,P9]
 rcases h5:op==5 with _ | _
 rotate_left
 ·simp only[go_sem,h1,h2,h3,h4,h5]
  refine CallK.mk _ (by simpa only[go_sem] using ER a b) fun _=>?_
  simp only[go_sem,holds1,h1,h2,h3,h4,h5]
 rcases h6:op==6 with _ | _
 rotate_left
 ·simp only[go_sem,h1,h2,h3,h4,h5,h6]
  refine CallK.mk _ (by simpa only[go_sem] using ER b a) fun _=>?_
  simp only[go_sem,holds1,h1,h2,h3,h4,h5,h6]
 simp only[go_sem,holds1,h1,h2,h3,h4,h5,h6]
theorem WE (op:Int) (a b:DVal):Ctr Tryz.prog 200 [.c (.v (.int .i64 (op))),.agg a.c,.agg b.c] [.val (.c (.v (.bool (holds1 op a b))))]:=by
 refine Ctr.mk Tryz.call200 Tryz.func200 rfl mixed Tryz.ntmps200 Tryz.results200 (by kernel_rfl) rfl fun hw=>?_
 rcases h1:op==1 with _ | _
 rotate_left
 ·simp only[go_sem,h1]
  refine CallK.mk _ (by simpa only[go_sem] using FD a b) fun _=>?_
  simp only[go_sem,holds1,h1]
 rcases h2:op==2 with _ | _
 rotate_left
 ·simp only[go_sem,h1,h2]
  refine CallK.mk _ (by simpa only[go_sem] using FD b a) fun _=>?_
  simp only[go_sem,holds1,h1,h2]
 rcases h3:op==3 with _ | _
 rotate_left
 ·simp only[go_sem,h1,h2,h3]
  simp only[go_sem,holds1,h1,h2,h3,Ik,Jd,P9]
 rcases h4:op==4 with _ | _
 rotate_left
 ·simp only[go_sem,h1,h2,h3,h4]
  simp only[go_sem,holds1,h1,h2,h3,h4,Ik,Jd,P9]
 rcases h5:op==5 with _ | _
 rotate_left
 ·simp only[go_sem,h1,h2,h3,h4,h5]
  refine CallK.mk _ (by simpa only[go_sem] using FD a b) fun _=>?_
  simp only[go_sem,holds1,h1,h2,h3,h4,h5]
 rcases h6:op==6 with _ | _
 rotate_left
 ·simp only[go_sem,h1,h2,h3,h4,h5,h6]
  refine CallK.mk _ (by simpa only[go_sem] using FD b a) fun _=>?_
  simp only[go_sem,holds1,h1,h2,h3,h4,h5,h6]
 simp only[go_sem,holds1,h1,h2,h3,h4,h5,h6]
def Ji:List DVal→List DVal→Bool
 | [],[]=>true
 | a::l,b::m=>Ik a b&&Ji l m
 | _,_=>false
theorem QB:∀ (a b:List DVal),a.length≠b.length→Ji a b=false
 | [],[],h=>by simp at h
 | [],_::_,_=>rfl
 | _::_,[],_=>rfl
 | a::l,b::m,h=>by simp only[Ji]; rw[QB l m (by simpa using h)]; simp
theorem TA (a b:List DVal) {k:Nat} (h1:k<a.length) (h2:k<b.length):Ji (a.drop k) (b.drop k)=(Ik a[k] b[k]&&Ji (a.drop (k+1)) (b.drop (k+1))):=by
 rw[List.drop_eq_getElem_cons h1,List.drop_eq_getElem_cons h2]; rfl
theorem TB (a b:List DVal) (ha:a.length≤1048576) (hb:b.length≤1048576):Ctr Tryz.prog 167 [.c (.sl (a.map DVal.c)),.c (.sl (b.map DVal.c))] [.val (.c (.v (.bool (Ji a b))))]:=by
 refine Ctr.mk Tryz.call167 Tryz.func167 rfl mixed Tryz.ntmps167 Tryz.results167 (by kernel_rfl) rfl fun hw=>?_
 simp only[go_sem,List.length_map]
 refine cndC.mk (fun h=>?_) (fun h=>?_)
 ·simp only[go_sem]
  rw[QB a b (by simp at h; omega)]
 ·have he:a.length=b.length:=by simp at h; omega
  simp only[go_sem,List.length_map]
  refine LoopU.mk 0 (A:=Nat) (fun k=>[(5,.c (.v (.int .i64 (k))))]) (fun _=>[]) (fun k=>k≤a.length∧Ji (a.drop k) (b.drop k)=Ji a b) (fun k=>a.length-k) 0 ⟨⟨rfl,rfl⟩,rfl,Nat.zero_le _,rfl⟩ ?_
  rintro k ⟨hk,hf⟩
  simp only[go_sem,List.length_map]
  refine cndC.mk (fun h=>?_) (fun h=>?_)
  ·have hk':k<a.length:=by simpa using h
   have hk2:k<b.length:=by omega
   rw[TA a b hk' hk2] at hf
   simp only[go_sem,List.length_map,AA _ hk',AA _ hk2,hk',hk2]
   try refine DrawK.mk ?_
   try simp only[go_sem,List.length_map,AA _ hk',AA _ hk2,hk',hk2]
   have e1:(a[k].ty==b[k].ty&&(a[k].n==b[k].n&&a[k].s.toList==b[k].s.toList))=Ik a[k] b[k]:=rfl
   try simp only[Jd,P9,e1,Bool.and_true]
   rcases hv:Ik a[k] b[k] with _ | _
   ·simp only[go_sem,hv,e1,Bool.not_false,Bool.and_true]
    rw[hv,Bool.false_and] at hf
    rw[hf]
   ·simp only[go_sem,hv,e1,Bool.not_true,wrap_i64 (n:=(k:Int)+1) (by omega) (by omega)]
    rw[hv,Bool.true_and] at hf
    exact⟨k+1,⟨rfl,rfl⟩,rfl,⟨by omega,hf⟩,by omega⟩
  ·have hk':k=a.length:=by simp at h; omega
   subst hk'
   simp only[go_sem]
   rw[← hf,List.drop_length,he,List.drop_length]; rfl
theorem YE (a b:List DVal) (ha:a.length≤1048576) (hb:b.length≤1048576):Ctr Tryz.prog 198 [.c (.sl (a.map DVal.c)),.c (.sl (b.map DVal.c))] [.val (.c (.v (.bool (Ji a b))))]:=by
 refine Ctr.mk Tryz.call198 Tryz.func198 rfl mixed Tryz.ntmps198 Tryz.results198 (by kernel_rfl) rfl fun hw=>?_
 simp only[go_sem,List.length_map]
 refine cndC.mk (fun h=>?_) (fun h=>?_)
 ·simp only[go_sem]
  rw[QB a b (by simp at h; omega)]
 ·have he:a.length=b.length:=by simp at h; omega
  simp only[go_sem,List.length_map]
  refine LoopU.mk 0 (A:=Nat) (fun k=>[(13,.c (.v (.int .i64 (k))))]) (fun _=>[]) (fun k=>k≤a.length∧Ji (a.drop k) (b.drop k)=Ji a b) (fun k=>a.length-k) 0 ⟨⟨rfl,rfl⟩,rfl,Nat.zero_le _,rfl⟩ ?_
  rintro k ⟨hk,hf⟩
  simp only[go_sem,List.length_map]
  refine cndC.mk (fun h=>?_) (fun h=>?_)
  ·have hk':k<a.length:=by simpa using h
   have hk2:k<b.length:=by omega
   rw[TA a b hk' hk2] at hf
   simp only[go_sem,List.length_map,AA _ hk',AA _ hk2,hk',hk2]
   try refine DrawK.mk ?_
   try simp only[go_sem,List.length_map,AA _ hk',AA _ hk2,hk',hk2]
   have e1:(a[k].ty==b[k].ty&&(a[k].n==b[k].n&&a[k].s.toList==b[k].s.toList))=Ik a[k] b[k]:=rfl
   try simp only[Jd,P9,e1,Bool.and_true]
   rcases hv:Ik a[k] b[k] with _ | _
   ·simp only[go_sem,hv,e1,Bool.not_false,Bool.and_true]
    rw[hv,Bool.false_and] at hf
    rw[hf]
   ·simp only[go_sem,hv,e1,Bool.not_true,wrap_i64 (n:=(k:Int)+1) (by omega) (by omega)]
    rw[hv,Bool.true_and] at hf
    exact⟨k+1,⟨rfl,rfl⟩,rfl,⟨by omega,hf⟩,by omega⟩
  ·have hk':k=a.length:=by simp at h; omega
   subst hk'
   simp only[go_sem]
   rw[← hf,List.drop_length,he,List.drop_length]; rfl
theorem TC (a b:List DVal) (ha:a.length≤1048576) (hb:b.length≤1048576):Ctr Tryz.prog 168 [.c (.sl (a.map DVal.c)),.c (.sl (b.map DVal.c))] [.val (.c (.v (.bool (Ji a b))))]:=by
 refine Ctr.mk Tryz.call168 Tryz.func168 rfl mixed Tryz.ntmps168 Tryz.results168 (by kernel_rfl) rfl fun hw=>?_
 simp only[go_sem,List.length_map]
 refine CallK.mk _ (YE a b ha hb) fun _=>?_
 simp only[go_sem]
def sameRow (a b:DRow):Bool:=(a.id==b.id)&&Ji a.l b.l
theorem NR (a b:DRow) (ha:a.l.length≤1048576) (hb:b.l.length≤1048576):Ctr Tryz.prog 117 [.agg a.c,.agg b.c] [.val (.c (.v (.bool (sameRow a b))))]:=by
 refine Ctr.mk Tryz.call117 Tryz.func117 rfl mixed Tryz.ntmps117 Tryz.results117 (by kernel_rfl) rfl fun hw=>?_
 rcases h1:a.id==b.id with _ | _
 ·simp only[go_sem,h1]
  simp only[sameRow,h1,Bool.false_and]
 ·simp only[go_sem,h1]
  refine CallK.mk _ (TB a.l b.l ha hb) fun _=>?_
  simp only[go_sem,h1]
  simp only[sameRow,h1,Bool.true_and]
theorem NS (a b:DRow) (ha:a.l.length≤1048576) (hb:b.l.length≤1048576):Ctr Tryz.prog 119 [.agg a.c,.agg b.c] [.val (.c (.v (.bool (sameRow a b))))]:=by
 refine Ctr.mk Tryz.call119 Tryz.func119 rfl mixed Tryz.ntmps119 Tryz.results119 (by kernel_rfl) rfl fun hw=>?_
 rcases h1:a.id==b.id with _ | _
 ·simp only[go_sem,h1]
  simp only[sameRow,h1,Bool.false_and]
 ·simp only[go_sem,h1]
  refine CallK.mk _ (TC a.l b.l ha hb) fun _=>?_
  simp only[go_sem,h1]
  simp only[sameRow,h1,Bool.true_and]
def FT:List DRow→List DRow→Bool
 | [],[]=>true
 | a::l,b::m=>sameRow a b&&FT l m
 | _,_=>false
theorem J3:∀ (a b:List DRow),a.length≠b.length→FT a b=false
 | [],[],h=>by simp at h
 | [],_::_,_=>rfl
 | _::_,[],_=>rfl
 | a::l,b::m,h=>by simp only[FT]; rw[J3 l m (by simpa using h)]; simp
theorem NT (a b:List DRow) {k:Nat} (h1:k<a.length) (h2:k<b.length):FT (a.drop k) (b.drop k)=(sameRow a[k] b[k]&&FT (a.drop (k+1)) (b.drop (k+1))):=by
 rw[List.drop_eq_getElem_cons h1,List.drop_eq_getElem_cons h2]; rfl
end Go.Proofs.YthoeeoddgkjkkaaGreat
