/- A part. -/
import Derived.Test.YtdagmocgcanknaaGreatVmF
import Derived.Laws.MakeOwn
import Derived.Laws.AppendOwn
set_option linter.unusedSimpArgs false
set_option linter.unusedVariables false
namespace Go.Vm
open Go.RowKit
theorem Ul {P:Program} {T:TypeId} {f fo:Nat} {ft:TypeId} (h:AC P T f=some (fo,ft)):∃ (fs:Array Field) (x:Field),P.underlying T=some (.struct fs)/\fs[f]?=some x/\x.offset=fo/\x.type=ft:=by unfold AC at h;grind
theorem Ju {P:Program} {T e:TypeId} (h:EF P T=some e):P.underlying T=some (.slice e):=by unfold EF at h;grind
def Gives (P:Program) (a:Act) (w:World) (St:Nat->Nat->Prop) (st:List Ob) (β:Nat->Option Nat) (o:Oper) (x:AV):Prop:=
 ∃ v,(execOp a.eval o).run P w = .ok (.value v) w/\AVR w St st β x v
variable {P:Program} {w0:Bs} {St0 St:Nat->Nat->Prop} {β:Nat->Option Nat} {s:MS} {a:Act} {w:World}
theorem AHH (h:Core w0 St0 St β s a w) (o:Oper) (T:TypeId) (x:Operand) (ho:o.op = .load T x) (hc:Ap x=true) {y:AV} (hy:I4 P s (.load T x)=some y):Gives P a w St s.st β o y:=by
 have he:=CU h x hc;simp only[I4] at hy;split at hy
 .rename_i n g hs hg;split at hy
  .rename_i l i off hev;split at hy
   .rename_i ob hob;split at hy
    .rename_i row hrow;split at hy
     .rename_i y0 hcut;split at hy
      .rename_i hno;simp only[ai] at hy;subst hy;rw[hev] at he;obtain⟨b,cs,hb,hu,g1,g2,g3⟩:=AAU h he hob;obtain⟨v,hv,hr⟩:=AAT (P:=P) (T:=T) (ABm g1 g2 g3 hrow) hs hg hcut hno;exact⟨v,by simp[execOp,ho,hu,hv],hr⟩
      .cases hy
     .cases hy
    .cases hy
   .cases hy
  .rename_i row hev;rw[hev] at he;simp only[AVR] at he;obtain⟨b,off,hu,hr⟩:=he
   obtain⟨v,hv,hr2⟩:=AAT (P:=P) (w:=w) (St:=St) (st:=s.st) (β:=β) (T:=T) (row:=row) (b:=b) (o:=off) (off:=0) (fun j c hj=>by
    obtain⟨_,u,hu1,hu2⟩:=hr.at j c hj;refine⟨u,hu1, ?_⟩;cases c with
    | ref l=>simp[RdD] at hu2
    | v x=>exact hu2
    | sl xs=>exact hu2
    | ow ty sz xs=>simp[RdD] at hu2) hs hg hy (ABl (fun j c hj=>by
     obtain⟨_,u,hu1,hu2⟩:=hr.at j c hj;cases c with
     | ow ty sz xs=>simp[RdD] at hu2
     | _=>rfl) hy)
   exact⟨v,by simp only[abC] at hv; simp[execOp,ho,hu,hv],hr2⟩
  .cases hy
 .cases hy
theorem AFJ (h:Core w0 St0 St β s a w) (o:Oper) (T:TypeId) (x:Operand) (f:Nat) (ho:o.op = .field T x f) (hc:Ap x=true) {y:AV} (hy:I4 P s (.field T x f)=some y):Gives P a w St s.st β o y:=by
 have he:=CU h x hc;simp only[I4] at hy;split at hy
 .rename_i fo ft hf;split at hy
  .rename_i n g row hs hg hev;rw[hev] at he;simp only[AVR] at he;obtain⟨us,hu,h1,h2⟩:=he;obtain⟨fs,fx,q1,q2,q3,q4⟩:=Ul hf;obtain⟨v,hv,hr⟩:=AFH (P:=P) h1 h2 hs hg hy;subst q3 q4;exact⟨v,by simp[execOp,ho,Instr.field,run_underlying q1,q2,hu,asAgg,hv],hr⟩
  .cases hy
 .cases hy
theorem uK (h:Core w0 St0 St β s a w) (o:Oper) (T:TypeId) (x:Operand) (f:Nat) (ho:o.op = .fieldAddr T x f) (hc:Ap x=true) {y:AV} (hy:I4 P s (.fieldAddr T x f)=some y):Gives P a w St s.st β o y:=by
 have he:=CU h x hc;simp only[I4] at hy;split at hy
 .rename_i fo ft hf;obtain⟨fs,fx,q1,q2,q3,q4⟩:=Ul hf;subst q3 q4;split at hy
  .rename_i m hs;have hrun:∀ b off,(Instr.fieldAt T (.pointer (some ⟨b,off,none⟩)) f).run P w = .ok (.pointer (some ⟨b,off+fx.offset,none⟩)) w:=by intro b off;simp[Instr.fieldAt,run_underlying q1,q2,Instr.sureAddr,fieldPlace,IM hs,addr_add]
   split at hy
   .rename_i l i off hev;split at hy
    .rename_i ob hob;simp only[ai] at hy;subst hy;rw[hev] at he;obtain⟨b,cs,hb,hu,_⟩:=AAU h he hob;refine⟨_,by simp[execOp,ho,hu,hrun]; rfl, ?_⟩;obtain⟨hl,_⟩:=Bo hob;simp only[AVR,hl];grind
    .cases hy
   .rename_i row hev;simp only[ai] at hy;subst hy;rw[hev] at he;simp only[AVR] at he;obtain⟨b,off,hu,hr⟩:=he;refine⟨_,by simp[execOp,ho,hu,hrun]; rfl, ?_⟩;simp only[AVR];exact⟨b,_,rfl,hr.drop _⟩
   .cases hy
  .cases hy
 .cases hy
theorem run_indexAt {T e:TypeId} {n:Nat} (ht:P.underlying T=some (.slice e)) (hs:Af P e=some n) {b off len cap k:Nat} {kd:IntKind} (hk:k<len) :
  (Instr.indexAt T (.slice (some ⟨b,off,none⟩) len cap) (.int kd (k:Int))).run P w = .ok (.pointer (some ⟨b,off+k*n,none⟩)) w:=by
 have h1:¬ len<=k:=AOl
 simp[Instr.indexAt,asIntOf,run_underlying ht,IM hs,addr_add,h1]
theorem uM (h:Core w0 St0 St β s a w) (o:Oper) (T:TypeId) (x ix:Operand) (ho:o.op = .indexAddr T x ix) (hc:Ap x=true) (hc2:Ap ix=true) {y:AV} (hy:I4 P s (.indexAddr T x ix)=some y):Gives P a w St s.st β o y:=by
 have he:=CU h x hc;have hi:=CU h ix hc2;simp only[I4] at hy;split at hy
 .rename_i e hte;have ht:=Ju hte;split at hy
  .rename_i n k hs hk;obtain⟨kd,hi2⟩:=nz hi hk;split at hy
   .rename_i xs hev;split at hy
    .rename_i row hrow;split at hy
     .rename_i hlen;simp only[ai] at hy;subst hy;rw[hev] at he;simp only[AVR,RdC,RdD] at he;obtain⟨ad,cap,hu,h2,h3,⟨sz,h4⟩,h5⟩:=he;have hkl:k<xs.length:=(az.1 hrow).1;rcases h5 with rfl | ⟨b,off,rfl,h6⟩
      .simp at hkl
      .have hsz:sz=n:=by rw[<- hlen]; exact(h4 row (aT hrow)).symm
       subst hsz;refine⟨_,by simp[execOp,ho,hu,hi2,run_indexAt ht hs hkl]; rfl, ?_⟩;simp only[AVR];exact⟨b,_,rfl,h6.at sz h4 k row hrow⟩
     .cases hy
    .cases hy
   .rename_i l hev;split at hy
    .rename_i ob hob;split at hy
     .rename_i hkl;obtain⟨hkl,hsz⟩:=hkl;simp only[ai] at hy;subst hy;rw[hev] at he;obtain⟨hl,hlive⟩:=Bo hob;simp only[AVR,RdC,BQ,hl] at he;have h2:=he.2 hlive;split at h2
      .grind
      .rename_i b hb;obtain⟨cap,cs,hu,h3,h4,_⟩:=h2;refine⟨_,by simp[execOp,ho,hu,hi2,run_indexAt ht hs hkl]; rfl, ?_⟩;simp only[AVR,hl];grind
     .cases hy
    .cases hy
   .cases hy
  .cases hy
 .cases hy
theorem AJD (h:Core w0 St0 St β s a w) (o:Oper) (c:Call) (ho:o.op = .call c) (hcl:c.callee = .builtin .len) (hc:c.args.toList.all Ap=true) {y:AV} (hy:I4 P s (.call c)=some y):Gives P a w St s.st β o y:=by
 simp only[I4,hcl] at hy;split at hy
 .rename_i t x hat hax;have hx:Ap x=true:=by rw[hax] at hc; simpa using hc
  have he:=CU h x hx;have ha1:c.argTypes = #[t]:=by have:=congrArg List.toArray hat; simpa using this
  have ha2:c.args = #[x]:=by have:=congrArg List.toArray hax; simpa using this
  split at hy
  .rename_i b hu hev;simp only[ai] at hy;subst hy;rw[hev] at he;obtain⟨hv,hw⟩:=O8 he;refine⟨.int .i64 b.size, ?_,XY (ADU (by simpa [Qv] using hw))⟩;exact ANa
  .rename_i e d hu hev;split at hy
   .rename_i xs hd;simp only[ai] at hy;subst hy;rw[hev] at he;simp only[AVR] at he;obtain⟨ad,cap,hv,h1,h2⟩:=uJ h he hd;refine⟨.int .i64 xs.length, ?_,XY (ADU AOl)⟩;exact ANa
   .cases hy
  .cases hy
 .cases hy
theorem ADV (h:Core w0 St0 St β s a w) (o:Oper) (c:Call) (ho:o.op = .call c) (hcl:c.callee = .builtin .min\/c.callee = .builtin .max) (hc:c.args.toList.all Ap=true) {y:AV} (hy:I4 P s (.call c)=some y):Gives P a w St s.st β o y:=by
 rcases hcl with hcl | hcl
 all_goals
  simp only[I4,hcl] at hy
  split at hy
  .rename_i x x2 hax
   have hx:Ap x=true/\Ap x2=true:=by rw[hax] at hc; simpa using hc
   have he:=CU h x hx.1
   have he2:=CU h x2 hx.2
   have ha2:c.args = #[x,x2]:=by have:=congrArg List.toArray hax; simpa using this
   split at hy
   .rename_i p q hev hev2
    simp only[ai] at hy
    subst hy
    rw[hev] at he
    rw[hev2] at he2
    obtain⟨hv,hw⟩:=O8 he
    obtain⟨hv2,hw2⟩:=O8 he2
    refine⟨_, ?_,XY ?_⟩
    rotate_left
    .grind
    .simp[execOp,ho,resolve,hcl,ha2,invoke,builtin,Builtin.min_,Builtin.max_,Builtin.min2,Builtin.max2,hv,hv2]
   .cases hy
  .cases hy
theorem AFK (h:Core w0 St0 St β s a w) (o:Oper) (T:TypeId) (x ix:Operand) (ho:o.op = .index T x ix) (hc:Ap x=true) (hc2:Ap ix=true) {y:AV} (hy:I4 P s (.index T x ix)=some y):Gives P a w St s.st β o y:=by
 have he:=CU h x hc;have hi:=CU h ix hc2;simp only[I4] at hy;split at hy
 .rename_i hu;split at hy
  .rename_i b k hev hk;obtain⟨kd,hi2⟩:=nz hi hk;split at hy
   .rename_i c hb;simp only[ai] at hy;subst hy;rw[hev] at he;obtain⟨hv,hw⟩:=O8 he;refine⟨_, ?_,XY (AFI c)⟩;simp[execOp,ho,Instr.index,asIntOf,hi2,run_underlying hu,hv,hb]
   .cases hy
  .cases hy
 .cases hy
theorem n_ (h:Core w0 St0 St β s a w) (o:Oper) (hc:o.op.operands.toList.all Ap=true) {y:AV} (hy:I4 P s o.op=some y):Gives P a w St s.st β o y:=by
 obtain⟨dst,op,type,pos,after,guard⟩:=o;simp only at hc hy;cases op with
 | move x =>
  exact AM3
 | assign x =>
  exact AM3
 | pick c x1 x2 =>
  simp[Op.operands] at hc
  have he:=CU h c hc.1
  have h1:=CU h x1 hc.2.1
  have h2:=CU h x2 hc.2.2
  simp only[I4] at hy
  split at hy
  .rename_i t hev
   simp only[ai] at hy; subst hy
   rw[hev] at he
   obtain⟨hv,_⟩:=O8 he
   cases t with
   | true=>exact⟨_,by simp[execOp,hv,asBool],h1⟩
   | false=>exact⟨_,by simp[execOp,hv,asBool],h2⟩
  .cases hy
 | load T x=>exact AHH h _ T x rfl AO_ hy
 | nilCheck x =>
  have he:=CU h x AO_
  simp only[I4] at hy
  split at hy
  .rename_i l i off hev
   split at hy
   .rename_i ob hob
    simp only[ai] at hy; subst hy
    rw[hev] at he
    obtain⟨b,cs,hb,hu,_⟩:=AAU h he hob
    exact⟨_,by simp[execOp,hu]; rfl,AOo⟩
   .cases hy
  .rename_i row hev
   simp only[ai] at hy; subst hy
   rw[hev] at he
   have he':=he
   simp only[AVR] at he'
   obtain⟨b,off,hu,_⟩:=he'
   exact⟨_,by simp[execOp,hu]; rfl,AOo⟩
  .rename_i f x1 x2 hev
   simp only[ai] at hy; subst hy
   rw[hev] at he
   obtain⟨hv,hw⟩:=O8 he
   exact⟨.func (.func f) x1 x2,by simp[execOp,hv],XY hw⟩
  .cases hy
 | binOp op T x1 x2 T2 =>
  simp[Op.operands] at hc
  have h1:=CU h x1 hc.1
  have h2:=CU h x2 hc.2
  simp only[I4] at hy
  split at hy
  .rename_i p q hev1 hev2
   split at hy
   .rename_i r hr
    simp only[ai] at hy; subst hy
    rw[hev1] at h1
    rw[hev2] at h2
    obtain⟨hv1,hw1⟩:=O8 h1
    obtain⟨hv2,hw2⟩:=O8 h2
    obtain⟨hrun,hwf⟩:=AFG (P:=P) hw1 hr x1 x2 w
    refine⟨r, ?_,XY hwf⟩
    simp only[execOp,hv1,hv2]
    rw[Sem.run_bind,hrun]
    rfl
   .cases hy
  .rename_i cs ds hev1 hev2
   rw[hev1] at h1
   rw[hev2] at h2
   simp only[AVR] at h1 h2
   obtain⟨us,hu1,hu2,hu3⟩:=h1
   obtain⟨vs,hv1,hv2,hv3⟩:=h2
   split at hy
   .rename_i ks hks
    split at hy
    .rename_i r hr
     obtain⟨k1,k2⟩:=uI (w:=w) hks hr (us:=us) (vs:=vs) (fun k x hk=>by
      obtain⟨z,hz,hc⟩:=hu3 k _ hk;simp only[RdC,RdD] at hc;rw[hz,hc.1]) (fun k x hk=>by
      obtain⟨z,hz,hc⟩:=hv3 k _ hk;simp only[RdC,RdD] at hc;rw[hz,hc.1]) x1 x2
     split at hy
     .simp only[ai] at hy; subst hy
      refine⟨.bool r, ?_,XY rfl⟩
      simp only[execOp,hu1,hv1]
      rw[Sem.run_bind,k1]
      rfl
     .simp only[ai] at hy; subst hy
      refine⟨.bool (!r), ?_,XY rfl⟩
      simp only[execOp,hu1,hv1]
      rw[Sem.run_bind,k2]
      rfl
     .cases hy
    .cases hy
   .cases hy
  .cases hy
 | unOp op T x =>
  have he:=CU h x AO_
  simp only[I4] at hy
  split at hy
  .rename_i p hev
   split at hy
   .rename_i r hr
    simp only[ai] at hy; subst hy
    rw[hev] at he
    obtain⟨hv,hw⟩:=O8 he
    obtain⟨hrun,hwf⟩:=AHF (P:=P) hr w
    exact⟨r,by simp[execOp,hv,hrun],XY hwf⟩
   .cases hy
  .cases hy
 | convert src dst x =>
  have he:=CU h x AO_
  simp only[I4] at hy
  split at hy
  .rename_i d1 k kd n hs1 hs2 hev
   simp only[ai] at hy; subst hy
   rw[hev] at he
   obtain⟨hv,hw⟩:=O8 he
   refine⟨_, ?_,XY (v:=.int k (k.wrap n)) APP⟩
   simp[execOp,hv,convert,run_underlying hs1,run_underlying hs2,Conv.intToInt]
  .rename_i d1 b hs1 hs2 hev
   simp only[ai] at hy; subst hy
   rw[hev] at he
   obtain⟨hv,hw⟩:=O8 he
   refine⟨_, ?_,XY (v:=.string b) hw⟩
   simp[execOp,hv,convert,run_underlying hs1,run_underlying hs2]
  .rename_i e d _ hs1 hs2 hev
   split at hy
   .rename_i xs he1 hdx
    split at hy
    .rename_i ns hns
     simp only[ai] at hy; subst hy
     rw[hev] at he
     simp only[AVR] at he
     obtain⟨q1,q2⟩:=jw hns
     obtain⟨ad0,cap0,e0,e1,e2⟩:=uJ h he hdx
     obtain⟨ad,cap,hu,_,hcells⟩:=Uk h he hdx
     have hsz:(strOfNums ns).size<=maxLen:=by rw[strOfNums_size,q1]; omega
     refine⟨.string (strOfNums ns), ?_,XY (v:=.string (strOfNums ns)) (by simp only[Qv,aQ]; exact hsz)⟩
     have key:(convert src dst (a.eval x)).run P w = .ok (.string (strOfNums ns)) w:=by
      rw[hu];rcases hcells with rfl | ⟨b,off,rfl,hc2⟩
      .have:ns = []:=aam q1;subst this;rw[hu] at e0;cases ad with
       | none=>exact run_convert_bytes_nil w src e hs1 he1 _ _ dst hs2
       | some ad =>
        have:=run_convert_bytes_string (P:=P) w src dst e (some ad) 0 cap hs1 he1 hs2
        simp only[aj]
        rw[this,run_bytesToString w ad 0 cap [] (run_loadCells_list (P:=P) w ad [] (fun j v hj=>by simp at hj))]
        rfl
      .refine run_convert_bytes_arg w src e hs1 he1 b off xs.length cap ns q1 (fun i hi=>?_) dst hs2;have hin:i<ns.length:=AOl;have hf:=q2 i ns[i] (by simp[hin]);obtain⟨v,hv,hr⟩:=hc2 i _ hf;have hr2:=hr.toC rfl;simp only[RdC,RdD] at hr2;grind
     simp only[execOp,Sem.run_bind,key,Result.andThen_ok,Sem.run_pure]
    .cases hy
   .cases hy
  .cases hy
 | fieldAddr T x f=>exact uK h _ T x f rfl AO_ hy
 | field T x f=>exact AFJ h _ T x f rfl AO_ hy
 | indexAddr T x ix =>
  simp[Op.operands] at hc
  grind [uM]
 | index T x ix =>
  simp[Op.operands] at hc
  grind [AFK]
 | extract x ix =>
  have he:=CU h x AO_
  simp only[I4] at hy
  split at hy
  .rename_i xs hev
   rw[hev] at he
   simp only[AVR] at he
   obtain⟨us,hu,h1⟩:=he
   obtain⟨u,hu1,hu2⟩:=ny h1 ix y hy
   exact⟨u,by simp[execOp,hu,Instr.extract,hu1],hu2⟩
  .cases hy
 | call c =>
  have hca:c.args.toList.all Ap=true:=by exact ALS
  by_cases h1:c.callee = .builtin .len
  .grind [AJD]
  .by_cases h2:c.callee = .builtin .min\/c.callee = .builtin .max
   .grind [ADV]
   .simp only[I4] at hy
    grind
 | _=>simp[I4] at hy
theorem oC {l:Nat} {u:Value} {st:List Ob} (h:BQ w st β l u):l<st.length:=by unfold BQ at h;grind
theorem yL {l i off:Nat} {u:Value} {st:List Ob} (h:AVR w St st β (.lp l i off) u):l<st.length:=by simp only[AVR] at h;grind
theorem Core.newObB (h:Core w0 St0 St β s a w) {w':World} (hb:Below w.heap.size w w') (ob:Ob) (ob':Option Nat) (hwr:ob.live=true)
  (hnone:ob'=none->ob.xs = []) (hsome:∀ b,ob'=some b->w.heap.size<=b/\b<w'.heap.size/\∃ cs:Array Value,w'.heap[b]?=some (.cells cs ob.ty (0,0))/\(∀ x∈ob.xs,x.length=ob.sz) /\
   ∀ (k:Nat) (c:Cl),ob.xs.flatten[k]?=some c->∃ u,cs[k]?=some u/\RdB w St s.st β c u)
  (hown:Own w0 (fun _=>False) w' St (s.st ++ [ob]) (fun l=>if l=s.st.length then ob' else β l)) :
  ∃ β',Core w0 St0 St β' ⟨s.n,s.env,s.st ++ [ob]⟩ a w'/\β' s.st.length=ob'/\(∀ x u,AVR w St s.st β x u->AVR w' St (s.st ++ [ob]) β' x u)/\(∀ x u,RdC w St s.st β x u->RdC w' St (s.st ++ [ob]) β' x u):=by
 refine⟨fun l=>if l=s.st.length then ob' else β l, ?_⟩
 have hw0:w0.heap.size<=w.heap.size:=h.below.size
 have hblk:∀ k,k<w.heap.size->w'.heap[k]?=w.heap[k]?:=hb.block
 have hcell:∀ b o,St b o->w'.cell? ⟨b,o,none⟩=w.cell? ⟨b,o,none⟩:=fun b o hbo=>cell_of_block (hblk b (h.stIn b o hbo))
 have hold:∀ l,l<s.st.length->(s.st ++ [ob])[l]?=s.st[l]?:=fun l hl=>AOo
 have hr:∀ l u,BQ w s.st β l u->BQ w' (s.st ++ [ob]) (fun l=>if l=s.st.length then ob' else β l) l u:=by intro l u hu;have hl:=oC hu;unfold BQ at hu ⊢;rw[hold l hl];have hne:¬ l=s.st.length:=AOl;simp only[hne,aL];exact ANC
 have hp:∀ l i off u,AVR w St s.st β (.lp l i off) u->AVR w' St (s.st ++ [ob]) (fun l=>if l=s.st.length then ob' else β l) (.lp l i off) u:=by exact AMy
 have hA:∀ x u,AVR w St s.st β x u->AVR w' St (s.st ++ [ob]) (fun l=>if l=s.st.length then ob' else β l) x u:=fun x u hx=>AVR.mono (fun _ _ h=>h) hcell hr hp x u hx
 have hC:∀ x u,RdC w St s.st β x u->RdC w' St (s.st ++ [ob]) (fun l=>if l=s.st.length then ob' else β l) x u:=fun x u hx=>RdC.mono (fun _ _ h=>h) hcell hr x u hx
 have hBB:∀ x u,RdB w St s.st β x u->RdB w' St (s.st ++ [ob]) (fun l=>if l=s.st.length then ob' else β l) x u:=fun x u hx=>RdB.mono (fun _ _ h=>h) hcell hr x u hx
 have hsplit:∀ l o2,(s.st ++ [ob])[l]?=some o2->(l<s.st.length/\s.st[l]?=some o2)\/(l=s.st.length/\o2=ob):=by exact AOV
 refine⟨?_,AOm,hA,hC⟩
 exact {
  defers:=h.defers
  size:=h.size
  lim:=h.lim
  env:=fun i=>hA _ _ (h.env i)
  below:=h.below.grow hb
  st0:=h.st0
  stOld:=h.stOld
  stIn:=fun b o hbo=>bm (h.stIn b o hbo) hb.size
  obs:=fun l o2 b hl hlive hβ=>by
   rcases hsplit l o2 hl with ⟨h1,h2⟩ | ⟨rfl,rfl⟩
   .have hne:¬ l=s.st.length:=by omega
    simp only[hne,aL] at hβ;obtain⟨q1,q2,q3⟩:=h.obs l o2 b h2 hlive hβ;refine⟨q1,bm q2 hb.size, ?_⟩;obtain⟨cs,g1,g2,g3⟩:=q3;refine⟨cs,AOo,g2,fun k c hk=>?_⟩;grind
   .simp only[aO] at hβ;obtain⟨q1,q2,cs,g1,g2,g3⟩:=hsome b hβ;refine⟨.inl (abI hw0 q1),q2,cs,g1,g2,fun k c hk=>?_⟩;grind
  nil:=fun l o2 hl hlive hβ=>by exact AMK
  inj:=fun l1 l2 o1 o2 b h1 h2 h3 h4 h5 h6=>by
   rcases hsplit l1 o1 h1 with ⟨p1,p2⟩ | ⟨rfl,rfl⟩<;>rcases hsplit l2 o2 h2 with ⟨q1,q2⟩ | ⟨rfl,rfl⟩
   .exact AMM
   .have e1:¬ l1=s.st.length:=by omega
    simp only[e1,aL,aO] at h5 h6;have:=(h.obs l1 o1 b p2 h3 h5).2.1;grind
   .have e1:¬ l2=s.st.length:=by omega
    simp only[e1,aL,aO] at h5 h6;have:=(h.obs l2 o2 b q2 h4 h6).2.1;grind
   .rfl
  sep:=fun l o2 b o hl hlive hβ hbo=>by
   rcases hsplit l o2 hl with ⟨h1,h2⟩ | ⟨rfl,rfl⟩
   .exact ANL
   .simp only[aO] at hβ;have:=(hsome b hβ).1;have:=h.stIn b o hbo;omega
  own:=hown }
theorem Core.newOb (h:Core w0 St0 St β s a w) {w':World} (hb:Below w.heap.size w w') (ob:Ob) (ob':Option Nat) (hwr:ob.live=true)
  (hnone:ob'=none->ob.xs = []) (hsome:∀ b,ob'=some b->w.heap.size<=b/\b<w'.heap.size/\∃ cs:Array Value,w'.heap[b]?=some (.cells cs ob.ty (0,0))/\(∀ x∈ob.xs,x.length=ob.sz) /\
   ∀ (k:Nat) (c:Cl),ob.xs.flatten[k]?=some c->∃ u,cs[k]?=some u/\RdC w St s.st β c u) :
  ∃ β',Core w0 St0 St β' ⟨s.n,s.env,s.st ++ [ob]⟩ a w'/\β' s.st.length=ob'/\(∀ x u,AVR w St s.st β x u->AVR w' St (s.st ++ [ob]) β' x u)/\(∀ x u,RdC w St s.st β x u->RdC w' St (s.st ++ [ob]) β' x u):=by
 refine h.newObB hb ob ob' hwr hnone (fun b hb'=>?_) ?_
 .obtain⟨q1,q2,cs,g1,g2,g3⟩:=hsome b hb'
  refine⟨q1,q2,cs,g1,g2,fun k c hk=>?_⟩
  obtain⟨u,hu,hc⟩:=g3 k c hk
  exact⟨u,hu,hc.toB⟩
 .refine h.own.move id (fun x hx=>⟨⟨hx.1,fun h=>h,bm hx.2.2.1 hb.size,hx.2.2.2.1,fun l o2 hl hlv=>?_⟩,hb.block x hx.2.2.1⟩) (fun _ _ h=>h)
   (fun b o hbo=>cell_of_block (hb.block b (h.stIn b o hbo))) (fun l o2 b k c hl hlive hβ hk hc=>?_) (fun _ _ _ _ _ _ _ _ e=>e)
  .by_cases e:l=s.st.length
   .simp only[e,aO]
    intro hb'
    have:=(hsome x hb').1
    have:=hx.2.2.1
    omega
   .simp only[e,aL]
    have hlt:l<s.st.length:=by exact AOW
    rw[aY hlt] at hl
    exact hx.2.2.2.2 l o2 hl hlv
  .by_cases e:l=s.st.length
   .subst e
    rw[aS (aG _)] at hl
    simp only[jv,ab,ai] at hl
    subst hl
    simp only[aO] at hβ
    obtain⟨_,_,cs,_,_,g3⟩:=hsome b hβ
    obtain⟨u,_,hr⟩:=g3 k c hk
    rw[hr.notOw] at hc
    cases hc
   .simp only[e,aL] at hβ
    have hlt:l<s.st.length:=by exact AOW
    rw[aY hlt] at hl
    exact⟨o2,b,hl,hlive,hβ,hk,cell_of_block (hb.block b (h.obs l o2 b hl hlive hβ).2.1)⟩
theorem YW (w:World) (o:Obj):Below w.heap.size w (w.alloc o):=(Below.refl _ _).alloc (aG _) o
theorem alloc_at (w:World) (o:Obj):(w.alloc o).heap[w.heap.size]?=some o:=by show (w.heap.push o)[w.heap.size]?=_;simp
theorem Core.newCells (h:Core w0 St0 St β s a w) (ty:TypeId) (sz:Nat) (xs:List (List Cl)) (cs:Array Value) (hl:∀ x∈xs,x.length=sz)
  (hc:∀ (k:Nat) (c:Cl),xs.flatten[k]?=some c->∃ u,cs[k]?=some u/\RdC w St s.st β c u) :
  ∃ β',Core w0 St0 St β' ⟨s.n,s.env,s.st ++ [⟨ty,sz,xs,true,true⟩]⟩ a (w.alloc (.cells cs ty))/\β' s.st.length=some w.heap.size/\(∀ x u,AVR w St s.st β x u->AVR (w.alloc (.cells cs ty)) St (s.st ++ [⟨ty,sz,xs,true,true⟩]) β' x u):=by
 obtain⟨β',h1,h2,h3,_⟩:=h.newOb (YW w (.cells cs ty)) ⟨ty,sz,xs,true,true⟩ (some w.heap.size) rfl AOm (fun b hb=>by
  grind [ai,alloc_at])
 grind
def Does (P:Program) (a:Act) (w:World) (w0:Bs) (St0:Nat->Nat->Prop) (s:MS) (o:Oper) (y:AV) (st':List Ob):Prop:=
 ∃ nx v w' St' β',(execOp a.eval o).run P w = .ok nx w'/\(nx = .value v\/(nx = .skip/\v=Go.undef))/\Core w0 St0 St' β' ⟨s.n,s.env,st'⟩ a w'/\AVR w' St' st' β' y v
def QP (P:Program) (s:MS) (T:TypeId):Option (AV×List Ob):=match Uj P T with
 | some cs=>some (.lp s.st.length 0 0,s.st ++ [⟨T,cs.length,[cs],true,true⟩])
 | none=>none
def ADW (s:MS) (T:TypeId) (x:AV):Option (AV×List Ob):=match cellsA x with
 | some cs=>some (.lp s.st.length 0 0,s.st ++ [⟨T,cs.length,[cs],true,true⟩])
 | none=>none
def dG (P:Program) (s:MS) (T:TypeId) (p x:AV):Option (AV×List Ob):=match Af P T,p,cellsA x with
 | some n,.lp l i off,some cs=>match DF s.st l with
  | some ob=>if ob.wr=true/\cs.length=n then match ob.xs[i]? with
   | some row=>if off+n<=row.length then some (.undef,s.st.set l { ob with xs:=ob.xs.set i (row.take off++(cs++row.drop (off+n))) }) else none
   | none=>none
   else none
  | none=>none
 | _,_,_=>none
theorem ADX (h:Core w0 St0 St β s a w) (o:Oper) (T:TypeId) (ho:o.op = .alloc T) {y:AV} {st':List Ob} (hy:QP P s T=some (y,st')):Does P a w w0 St0 s o y st':=by
 unfold QP at hy;split at hy
 .rename_i cs0 hz0
  .obtain⟨zs,hz,hwf,rfl⟩:=O6 hz0;simp only[ai,bb] at hy;obtain⟨rfl,rfl⟩:=hy;obtain⟨z,hz1,hz2⟩:=Vd hz w
   obtain⟨β',h1,h2,_⟩:=h.newCells T (zs.map Cl.v).length [zs.map .v] z.cells AOm (fun k c hk=>by
    simp only[XV,aaH,bc,nX,aao] at hk;obtain⟨v,hv,rfl⟩:=hk;refine⟨v,AOo, ?_⟩;simp only[RdC,RdD,true_and];exact aC.1 hwf v (aT hv))
   refine⟨_,.pointer (some ⟨w.heap.size,0,none⟩),_,St,β', ?_,.inl rfl,h1, ?_⟩
   .simp[execOp,ho,Instr.alloc,hz1,newVar,newRow]
   .simp[AVR,h2]
 .cases hy
theorem AHI (h:Core w0 St0 St β s a w) (o:Oper) (T:TypeId) (x:Operand) (ho:o.op = .box T x) (hc:Ap x=true) {y:AV} {st':List Ob} (hy:ADW s T (Eo s x)=some (y,st')):Does P a w w0 St0 s o y st':=by
 have he:=CU h x hc;unfold ADW at hy;split at hy
 .rename_i cs hcs;simp only[ai,bb] at hy;obtain⟨rfl,rfl⟩:=hy;obtain⟨q1,q2⟩:=TN he hcs
  obtain⟨β',h1,h2,_⟩:=h.newCells T cs.length [cs] (a.eval x).cells AOm (fun k c hk=>by
   grind)
  refine⟨_,.pointer (some ⟨w.heap.size,0,none⟩),_,St,β', ?_,.inl rfl,h1, ?_⟩
  .simp[execOp,ho,Instr.box,newVar,newRow]
  .simp[AVR,h2]
 .cases hy
theorem Core.write (h:Core w0 St0 St β s a w) {l:Nat} {ob:Ob} (hob:DF s.st l=some ob) (hwr:ob.wr=true) {b:Nat} (hb:β l=some b) (xs':List (List Cl)) (hlen:xs'.length=ob.xs.length) (hsz:∀ x∈xs',x.length=ob.sz)
  {cs cs':Array Value} (hcs:w.heap[b]?=some (.cells cs ob.ty (0,0))) (hsize:cs'.size=cs.size) (hc:∀ (k:Nat) (c:Cl),xs'.flatten[k]?=some c->∃ u,cs'[k]?=some u/\RdB w St s.st β c u)
  (how:∀ (k:Nat) (c:Cl),xs'.flatten[k]?=some c->HY c=true->ob.xs.flatten[k]?=some c/\cs'[k]?=cs[k]?) :
  Core w0 St0 St β ⟨s.n,s.env,s.st.set l { ob with xs:=xs' }⟩ a (w.setRow b cs'):=by
 obtain⟨hl,hlive⟩:=Bo hob
 obtain⟨hB,hlt,_⟩:=h.obs l ob b hl hlive hb
 have hnew:(w.setRow b cs').heap[b]?=some (.cells cs' ob.ty (0,0)):=setRow_heap w b cs cs' ob.ty (0,0) hcs
 have hoth:∀ k,k≠b->(w.setRow b cs').heap[k]?=w.heap[k]?:=fun k hk=>setRow_other w b k cs' hk
 have hbelow:BelowB w0 (w.setRow b cs'):=h.below.step (n:=0) ⟨rfl,rfl,rfl,AQA,fun k hk=>absurd hk (Nat.not_lt_zero _)⟩ (fun k h1 h2=>hoth k fun e=>by
  subst e;rcases hB with h' | h'
  .omega
  grind) fun k hk=>by
  grind [ADR,yI]
 have hcell:∀ b' o,St b' o->(w.setRow b cs').cell? ⟨b',o,none⟩=w.cell? ⟨b',o,none⟩:=fun b' o hbo=>by
  have hne:b'≠b:=fun e=>by subst e;have:=(h.sep l ob b' o hl hlive hb hbo).1;grind
  grind [cell_of_block]
 have hll:l<s.st.length:=(az.1 hl).1
 have hget:∀ l',(s.st.set l { ob with xs:=xs' })[l']?=if l=l' then some { ob with xs:=xs' } else s.st[l']?:=fun l'=>by grind
 have hr:∀ l' u,BQ w s.st β l' u->BQ (w.setRow b cs') (s.st.set l { ob with xs:=xs' }) β l' u:=by
  intro l' u hu;unfold BQ at hu ⊢;rw[hget l'];by_cases e:l=l'
  .grind
  .simp only[e,aL];exact AMD
 have hp:∀ l' i off u,AVR w St s.st β (.lp l' i off) u->AVR (w.setRow b cs') St (s.st.set l { ob with xs:=xs' }) β (.lp l' i off) u:=by intro l' i off u hu;simp only[AVR,hget l'] at hu ⊢;exact ANg
 have hC:∀ x u,RdC w St s.st β x u->RdC (w.setRow b cs') St (s.st.set l { ob with xs:=xs' }) β x u:=fun x u hx=>RdC.mono (fun _ _ h=>h) hcell hr x u hx
 have hBB:∀ x u,RdB w St s.st β x u->RdB (w.setRow b cs') St (s.st.set l { ob with xs:=xs' }) β x u:=fun x u hx=>RdB.mono (fun _ _ h=>h) hcell hr x u hx
 have hsp:∀ l' o2,(s.st.set l { ob with xs:=xs' })[l']?=some o2->∃ o3,s.st[l']?=some o3/\o2.live=o3.live/\o2.wr=o3.wr/\o2.sz=o3.sz/\o2.ty=o3.ty/\o2.xs.length=o3.xs.length/\(l≠l'->o2=o3)/\(l=l'->o3=ob/\o2.xs=xs'):=by intro l' o2 h2;rw[hget l'] at h2;exact ANg
 exact {
  defers:=h.defers
  size:=h.size
  lim:=h.lim
  env:=fun i=>AVR.mono (fun _ _ h=>h) hcell hr hp _ _ (h.env i)
  below:=hbelow
  st0:=h.st0
  stOld:=h.stOld
  stIn:=fun b' o hbo=>by simpa [World.setRow] using h.stIn b' o hbo
  obs:=fun l' o2 b2 hl2 hlive2 hβ=>by
   obtain⟨o3,r1,r2,r3,r4,r5,r6,r7,r8⟩:=hsp l' o2 hl2;obtain⟨q1,q2,cs2,g1,g2,g3⟩:=h.obs l' o3 b2 r1 AOo hβ;refine⟨q1,AOo, ?_⟩;by_cases e:l=l'
   .obtain⟨e1,e2⟩:=r8 e;subst e;have:b2=b:=by rw[hb] at hβ; exact(uG hβ).symm
    subst this;refine⟨cs',AOo,AOo,fun k c hk=>?_⟩;grind
   .have:=r7 e;subst this;have hne:b2≠b:=fun e2=>by subst e2; exact e (h.inj l l' ob o2 b2 hl r1 hlive hlive2 hb hβ)
    refine⟨cs2,AOo,g2,fun k c hk=>?_⟩;grind
  nil:=fun l' o2 hl2 hlive2 hβ=>by obtain⟨o3,r1,r2,r3,r4,r5,r6,r7,r8⟩:=hsp l' o2 hl2;have:=h.nil l' o3 r1 AOo hβ;grind
  inj:=fun l1 l2 o1 o2 b' h1 h2 h3 h4 h5 h6=>by obtain⟨p1,q1,r1,_⟩:=hsp l1 o1 h1;obtain⟨p2,q2,r2,_⟩:=hsp l2 o2 h2;exact h.inj l1 l2 p1 p2 b' q1 q2 AOo AOo h5 h6
  sep:=fun l' o2 b' o hl2 hlive2 hβ hbo=>by obtain⟨o3,r1,r2,r3,r4,r5,r6,r7,r8⟩:=hsp l' o2 hl2;have:=h.sep l' o3 b' o r1 AOo hβ hbo;grind
  own:=by
   refine h.own.move id (fun x hx=>?_) (fun _ _ h=>h) hcell (fun l' o2 b2 k c hl2 hlive2 hβ hk hcw=>?_) (fun _ _ _ _ _ _ _ _ e=>e)
   .have hxb:x≠b:=fun e=>hx.2.2.2.2 l ob hl hlive (by rw[hb,e])
    exact⟨⟨hx.1,fun h=>h,by simpa [World.setRow] using hx.2.2.1,hx.2.2.2.1,fun l' o2 hl' hlv=>by
     obtain⟨o3,r1,r2,_⟩:=hsp l' o2 hl';exact hx.2.2.2.2 l' o3 r1 AOo⟩,hoth x hxb⟩
   .obtain⟨o3,r1,r2,r3,r4,r5,r6,r7,r8⟩:=hsp l' o2 hl2;by_cases e:l=l'
    .obtain⟨e1,e2⟩:=r8 e;subst e;have eb:b2=b:=by rw[hb] at hβ; exact(uG hβ).symm
     subst eb;rw[e2] at hk;obtain⟨g1,g2⟩:=how k c hk hcw;refine⟨ob,b2,hl,hlive,hb,g1, ?_⟩;simp[World.cell?,hnew,hcs,g2]
    .have:=r7 e;subst this;have hne:b2≠b:=fun e2=>by subst e2; exact e (h.inj l l' ob o2 b2 hl r1 hlive hlive2 hb hβ)
     grind [cell_of_block] }
theorem RZ {xs:List (List Cl)} {sz i off n:Nat} {row cs:List Cl} (hl:∀ x∈xs,x.length=sz) (hi:xs[i]?=some row) (hle:off+n<=row.length) :
  (xs.set i (row.take off++(cs++row.drop (off+n)))).flatten=xs.flatten.take (i*sz+off)++(cs++xs.flatten.drop (i*sz+(off+n))):=by
 have hil:i<xs.length:=(az.1 hi).1
 have hx:xs=xs.take i++row::xs.drop (i+1):=by
  have:row=xs[i]:=by rw[am hil] at hi; exact(uG hi).symm
  rw[this,<- aB hil,List.take_append_drop]
 have hA:(xs.take i).flatten.length=i*sz:=by rw[EO (sz:=sz) (fun x hx=>hl x (uF hx)),aU,ZW AOl]
 have hF:xs.flatten=(xs.take i).flatten++(row++(xs.drop (i+1)).flatten):=by
  conv=>lhs; rw[hx]
  simp
 rw[List.set_eq_take_append_cons_drop,aV hil]
 grind [aaD,XV,ba,List.take_length_add_append,List.drop_length_add_append]
theorem YX {R:Cl->Value->Prop} {F cs:List Cl} {C vs:List Value} {p n:Nat} (hC:∀ (k:Nat) (c:Cl),F[k]?=some c->∃ u,C[k]?=some u/\R c u) (hp:p+n<=F.length) (hcl:cs.length=n) (hvl:vs.length=n)
  (hcs:∀ (k:Nat) (c:Cl),cs[k]?=some c->∃ u,vs[k]?=some u/\R c u) (hFC:F.length<=C.length) :
  ∀ (k:Nat) (c:Cl),(F.take p++(cs++F.drop (p+n)))[k]?=some c->∃ u,(C.take p++(vs++C.drop (p+n)))[k]?=some u/\R c u:=by
 grind
theorem ADY {F cs:List Cl} {C vs:List Value} {p n:Nat} (hp:p+n<=F.length) (hcl:cs.length=n) (hvl:vs.length=n) (hFC:F.length<=C.length) (hno:∀ (k:Nat) (c:Cl),cs[k]?=some c->HY c=false) :
  ∀ (k:Nat) (c:Cl),(F.take p++(cs++F.drop (p+n)))[k]?=some c->HY c=true->F[k]?=some c/\(C.take p++(vs++C.drop (p+n)))[k]?=C[k]?:=by
 intro k c hk hc
 have l1:(F.take p).length=p:=AOn
 grind
theorem NJ {R:Cl->Value->Prop} {F:List Cl} {C:List Value} (hC:∀ (k:Nat) (c:Cl),F[k]?=some c->∃ u,C[k]?=some u/\R c u):F.length<=C.length:=by
 rcases bh C.length F.length with h | h
 .obtain⟨u,hu,_⟩:=hC C.length _ (am h);simp at hu
 .exact h
theorem ADZ (h:Core w0 St0 St β s a w) (o:Oper) (T:TypeId) (p x:Operand) (ho:o.op = .store T p x) (hc:Ap p=true) (hc2:Ap x=true) {y:AV} {st':List Ob} (hy:dG P s T (Eo s p) (Eo s x)=some (y,st')):Does P a w w0 St0 s o y st':=by
 have hp:=CU h p hc;have hx:=CU h x hc2;unfold dG at hy;split at hy
 .rename_i n l i off cs hs hev hcs;split at hy
  .rename_i ob hob;split at hy
   .rename_i hwl;obtain⟨hwr,hcl⟩:=hwl;split at hy
    .rename_i row hrow;split at hy
     .rename_i hle;simp only[ai,bb] at hy;obtain⟨rfl,rfl⟩:=hy;rw[hev] at hp;obtain⟨b,C,hb,hu,g1,g2,g3⟩:=AAU h hp hob;obtain⟨q1,q2⟩:=TN hx hcs;have hrl:row.length=ob.sz:=g2 row (aT hrow);have hil:i<ob.xs.length:=(az.1 hrow).1;have hFl:ob.xs.flatten.length=ob.xs.length*ob.sz:=EO g2;have g3':∀ (k:Nat) (c:Cl),ob.xs.flatten[k]?=some c->∃ u,C.toList[k]?=some u/\RdB w St s.st β c u:=fun k c hk=>AOo;have hFC:=NJ g3';have hpos:i*ob.sz+(off+n)<=ob.xs.flatten.length:=by rw[hFl];have:(i+1)*ob.sz<=ob.xs.length*ob.sz:=aaF _ hil;rw[dE] at this; omega
      have hvl:(a.eval x).cells.toList.length=n:=by rw[q1,hcl]
      have h1:∀ v∈(a.eval x).cells.toList,v.oneCell'=true:=fun v hv=>by
       obtain⟨k,hk1,hk2⟩:=aaE hv;have hkc:k<cs.length:=by rw[<- q1]; exact hk1
       obtain⟨u,hu1,hu2⟩:=q2 k _ (am hkc);rw[am hk1] at hu1;simp only[ai] at hu1;rw[<- hk2,hu1]; exact hu2.one
      have hrun:=run_storeCells_at P b (i*ob.sz+off) ob.ty (a.eval x).cells.toList 0 C w g1 (by
       grind) h1
      simp only[abC,hvl] at hrun;have hasz:(a.eval x).cells.size=n:=by simpa using hvl
      refine⟨.skip,Go.undef,_,St,β, ?_,.inr ⟨rfl,rfl⟩,h.write hob hwr hb (ob.xs.set i (row.take off++(cs++row.drop (off+n)))) AOm ?_ g1 (cs':=(C.toList.take (i*ob.sz+off)++(a.eval x).cells.toList++C.toList.drop (i*ob.sz+off+n)).toArray) ?_ ?_ ?_, ?_⟩
      .simp[execOp,ho,hu,Instr.storeAt,Instr.sureAddr,storeVar,IM hs,hasz,hrun]
      .grind
      .grind
      .intro k c hk;rw[RZ g2 hrow hle] at hk;have:=YX g3' (p:=i*ob.sz+off) (n:=n) AOl hcl hvl (fun k c hk=>by obtain⟨u,hu1,hu2⟩:=q2 k c hk; exact⟨u,hu1,hu2.toB⟩) hFC k c AOo;grind
      .intro k c hk how;rw[RZ g2 hrow hle] at hk;have:=ADY (C:=C.toList) (vs:=(a.eval x).cells.toList) (p:=i*ob.sz+off) (n:=n) AOl hcl hvl hFC (fun k c hk=>by obtain⟨u,_,hu2⟩:=q2 k c hk; exact hu2.notOw) k c AOo how;grind
      .simp only[AVR]
     .cases hy
    .cases hy
   .cases hy
  .cases hy
 .cases hy
def ET (P:Program) (t:TypeId):Option Nat:=(P.info? t).map (·.bytes)
def uN (P:Program) (s:MS) (T:TypeId) (l c:AV):Option (AV×List Ob):=match EF P T with
 | some e=>match Af P e,Uj P e,ET P e with
  | some n,some cs,some by'=>match l,c with
   | .c (.v (.int .i64 nl)),.c (.v (.int .i64 nc))=>if cs.length=n/\0<n/\by'<=65536/\0<=nl/\nl<=nc/\nc<=2147483648
    then some (.c (.ref s.st.length),s.st ++ [⟨e,n,List.replicate nl.toNat cs,true,true⟩]) else none
   | _,_=>none
  | _,_,_=>none
 | none=>none
theorem oD (zs:Array Value) (n k:Nat) (hk:k<n) (hz:0<zs.size):(madeCells zs n)[k]?=zs[k%zs.size]?:=by have hm:k%zs.size<zs.size:=Nat.mod_lt _ hz;simp[madeCells,hk,hm]
theorem Rf {z:List Cl} {n:Nat} {k:Nat} {c:Cl} (hz:0<z.length) (h:(List.replicate n z).flatten[k]?=some c):z[k%z.length]?=some c/\k<n*z.length:=by
 have hl:∀ x∈List.replicate n z,x.length=z.length:=fun x hx=>AOo;have hlen:=EO hl
 have hk:k<n*z.length:=by
  rcases bh k (n*z.length) with h' | h'
  .exact h'
  .grind
 refine⟨?_,hk⟩;have hi:k/z.length<n:=Nat.div_lt_of_lt_mul AOo;have hj:k%z.length<z.length:=Nat.mod_lt _ hz;have:=F6 hl (k/z.length) (k%z.length) z _ AQe (am hj);grind [Nat.mul_comm,Nat.div_add_mod,am]
theorem AFL (h:Core w0 St0 St β s a w) (o:Oper) (T:TypeId) (l c:Operand) (ho:o.op = .makeSlice T l c) (hc:Ap l=true) (hc2:Ap c=true) {y:AV} {st':List Ob} (hy:uN P s T (Eo s l) (Eo s c)=some (y,st')):Does P a w w0 St0 s o y st':=by
 have hl:=CU h l hc;have hcc:=CU h c hc2;unfold uN at hy;split at hy
 .rename_i e hte;have ht:=Ju hte;split at hy
  .rename_i n cs0 by' hs hz0 hb;obtain⟨zs,hz,hwf,rfl⟩:=O6 hz0;split at hy
   .rename_i nl nc hev1 hev2;split at hy
    .rename_i hcond;obtain⟨hzl0,hn,hby,h0,h1,h2⟩:=hcond;have hzl:zs.length=n:=AP2;simp only[ai,bb] at hy;obtain⟨rfl,rfl⟩:=hy;rw[hev1] at hl;rw[hev2] at hcc;obtain⟨hv1,_⟩:=O8 hl;obtain⟨hv2,_⟩:=O8 hcc;unfold Af at hs;unfold O5 at hz;unfold ET at hb;cases hi:P.info? e with
     | none=>grind
     | some i =>
      cases hiz:i.zero with
      | none=>grind
      | some z =>
       simp[hi] at hs hb
       simp[hi,hiz] at hz
       have hzs:z.cells.size=n:=by rw[<- hzl,<- hz]; simp
       have hrun:=run_make (P:=P) w T e i z ht hi hiz .i64 .i64 nl nc h0 h1 (by rw[hb]; have:(by':Int)*nc<=65536*2147483648:=Int.mul_le_mul AOl h2 AOl AOl; omega) AOl
       have hmc:(madeCells z.cells (nc.toNat*i.size)).size=nc.toNat*i.size:=size_madeCells _ _
       obtain⟨β',q1,q2,q3⟩:=h.newCells e n (List.replicate nl.toNat (zs.map .v)) (madeCells z.cells (nc.toNat*i.size)) (fun x hx=>AOo) (fun k cl hk=>by
        have hzl':(zs.map Cl.v).length=n:=by simpa using hzl
        obtain⟨r1,r2⟩:=Rf AOl hk;rw[hzl'] at r1 r2;simp only[nX,aao] at r1;obtain⟨v,hv,rfl⟩:=r1;have hkn:k<nc.toNat*i.size:=by rw[hs];exact bm r2 (aaF _ AOl)
        refine⟨v, ?_, ?_⟩
        .grind [oD]
        .simp only[RdC,RdD,true_and];exact aC.1 hwf v (aT hv))
       refine⟨_,.slice (some ⟨w.heap.size,0,none⟩) nl.toNat nc.toNat,_,St,β', ?_,.inl rfl,q1, ?_⟩
       .simp[execOp,ho,hv1,hv2,hrun]
       .simp only[AVR,RdC,BQ]
        rw[aS (aG _)]
        simp only[jv,ab,q2]
        refine⟨rfl,fun _=>⟨nc.toNat,_, ?_, ?_, ?_,alloc_at w _, ?_⟩⟩
        .simp
        .simp; omega
        .simp only[maxLen]; omega
        grind
    .cases hy
   .cases hy
  .cases hy
 .cases hy
theorem foldl_set:∀ (vs:List Value) (off k:Nat) (A:Array Value),off+k+vs.length<=A.size ->
  (vs.zipIdx k).foldl (fun cs (x:Value×Nat)=>cs.setIfInBounds (off+x.2) x.1) A=(A.toList.take (off+k)++vs++A.toList.drop (off+k+vs.length)).toArray
 | [],off,k,A,_=>AOm
 | v::vs,off,k,A,h=>by simp only[ag] at h;simp only[List.zipIdx_cons,abB];rw[foldl_set vs off (k+1) (A.setIfInBounds (off+k) v) AOn];congr 1;have:=list_seg_step A.toList (off+k) v vs AOn;simp only[Array.toList_setIfInBounds];rw[show off+(k+1)=off+k+1 from AOl,this];simp
theorem jy (place:Nat->Option (Nat×Nat)) (A:Array Value) (i off size:Nat) (v:Value) (rest:List (Nat×Value)) (hp:place i=some (off,size)) (hv:v.cells.size=size) (hle:off+size<=A.size) :
  Instr.fill place A ((i,v)::rest)=Instr.fill place (A.toList.take off++(v.cells.toList++A.toList.drop (off+size))).toArray rest:=by
 have h1:¬ ((decide (v.cells.size≠size)||decide (off+v.cells.size>A.size))=true):=AOn
 have hfl:=foldl_set v.cells.toList off 0 A AOn
 simp only[abC] at hfl
 have e:v.cells.zipIdx.foldl (fun cs (x:Value×Nat)=>cs.setIfInBounds (off+x.2) x.1) A=(A.toList.take off++(v.cells.toList++A.toList.drop (off+size))).toArray:=by rw[<- Array.foldl_toList];rw[Array.toList_zipIdx,hfl];simp[hv]
 simp only[Instr.fill,hp]
 rw[aR h1]
 exact congrArg (fun B=>Instr.fill place B rest) e
def I5 (s:MS) (ps:List (Nat×Operand)):List (Nat×AV):=match ps with
 | []=>[]
 | p::r=>(p.1,Eo s p.2)::I5 s r
def Vf:List (Nat×AV)->Nat->Nat->Option (List (List Cl))
 | [],_,_=>some []
 | (i,x)::r,k,n=>match cellsA x,Vf r (k+1) n with
  | some cs,some rs=>if i=k/\cs.length=n then some (cs::rs) else none
  | _,_=>none
def j_ (P:Program) (T:TypeId) (F:List Cl):List (Nat×AV)->Option (List Cl)
 | []=>some F
 | (i,x)::r=>match AC P T i,cellsA x with
  | some (off,ft),some cs=>match Af P ft with
   | some n=>if cs.length=n/\off+n<=F.length then j_ P T (F.take off++(cs++F.drop (off+n))) r else none
   | none=>none
  | _,_=>none
theorem kC (n:Nat) {st:List Ob} (hn:0<n):∀ (ps:List (Nat×AV)) (vs:List (Nat×Value)) (k:Nat) (rows:List (List Cl)) (A:Array Value),
  vs.length=ps.length->(∀ (j:Nat) (p:Nat×AV),ps[j]?=some p->∃ q:Nat×Value,vs[j]?=some q/\q.1=p.1/\AVR w St st β p.2 q.2)->Vf ps k n=some rows->(k+ps.length)*n<=A.size ->
  ∃ B:Array Value,Instr.fill (fun i=>some (i*n,n)) A vs=some B/\B.size=A.size/\(∀ j,j<k*n->B[j]?=A[j]?)/\(∀ j,(k+ps.length)*n<=j->B[j]?=A[j]?) /\
   ∀ (j:Nat) (c:Cl),rows.flatten[j]?=some c->∃ u,B[k*n+j]?=some u/\RdC w St st β c u
 | [],vs,k,rows,A,hl,_,hr,_=>by simp only[Vf,ai] at hr;subst hr;have:vs = []:=aam APf;subst this;exact⟨A,rfl,rfl,fun _ _=>rfl,fun _ _=>rfl,fun j c hj=>by simp at hj⟩
 | (i,x)::ps,vs,k,rows,A,hl,hvs,hr,hA=>by
  cases vs with
  | nil=>simp at hl
  | cons v vs =>
   obtain⟨q,hq1,hq2,hq3⟩:=hvs 0 (i,x) rfl
   simp only[ab,ai] at hq1
   subst hq1
   simp only[Vf] at hr
   split at hr
   .rename_i cs rs hcs hrs
    split at hr
    .rename_i hik
     obtain⟨hik,hcl⟩:=hik
     simp only[ai] at hr
     subst hr
     subst hik
     obtain⟨c1,c2⟩:=TN hq3 hcs
     obtain⟨vi,vv⟩:=v
     simp only at hq2 hq3 c1 c2
     subst hq2
     have hvsz:vv.cells.size=n:=by have:vv.cells.toList.length=vv.cells.size:=AOm;omega
     simp only[ag] at hA
     have hA':vi*n+n<=A.size:=by exact AOF
     have hsz:(A.toList.take (vi*n)++(vv.cells.toList++A.toList.drop (vi*n+n))).toArray.size=A.size:=by have:A.toList.length=A.size:=AOm;have:vv.cells.toList.length=vv.cells.size:=AOm;simp only[aa9,aP,aU,aaM];omega
     obtain⟨B,b1,b2,b3,b4,b5⟩:=kC n hn ps vs (vi+1) rs (A.toList.take (vi*n)++(vv.cells.toList++A.toList.drop (vi*n+n))).toArray APf
      (fun j p hj=>by simpa using hvs (j+1) p (by simpa using hj)) hrs (by rw[hsz]; rw[show vi+1+ps.length=vi+(ps.length+1) from AOl]; exact hA)
     have hAl:A.toList.length=A.size:=AOm
     have htl:(A.toList.take (vi*n)).length=vi*n:=AOn
     have hvl:vv.cells.toList.length=n:=by simpa using hvsz
     refine⟨B, ?_,by rw[b2,hsz],fun j hj=>?_,fun j hj=>?_,fun j c hj=>?_⟩
     .rw[jy _ A vi (vi*n) n vv vs rfl hvsz hA']; exact b1
     .rw[b3 j (by rw[dE]; omega)]
      simp only[aa4]
      rw[aY AOl,aaC,aV hj]
      simp
     .simp only[ag] at hj
      rw[b4 j (by rw[show vi+1+ps.length=vi+(ps.length+1) from AOl]; exact hj)]
      have hj2:vi*n+n<=j:=by exact AOF
      simp only[aa4]
      rw[aS AOl,aS AOl,aaV,htl,hvl]
      rw[show vi*n+n+(j-vi*n-n)=j from AOl]
      simp
     .simp only[XV] at hj
      rcases bh j n with h1 | h1
      .rw[aY AOl] at hj
       obtain⟨u,hu,hc⟩:=c2 j c hj
       refine⟨u, ?_,hc⟩
       rw[b3 _ (by rw[dE]; omega)]
       simp only[aa4]
       rw[aS AOl,htl,show vi*n+j-vi*n=j from AOl,aY AOl]
       exact hu
      .rw[aS AOl,hcl] at hj
       obtain⟨u,hu,hc⟩:=b5 (j-n) c hj
       refine⟨u, ?_,hc⟩
       rw[dE] at hu
       rw[show vi*n+1*n+(j-n)=vi*n+j from AOl] at hu
       exact hu
    .cases hr
   .cases hr
def MF (P:Program) (s:MS) (T:TypeId) (len:Nat) (ps:List (Nat×Operand)):Option (AV×List Ob):=match EF P T with
 | some e=>match Af P e,Uj P e,Vf (I5 s ps) 0 ((Af P e).getD 0) with
  | some n,some zs,some rows=>if rows.length=len/\zs.length=n/\0<n/\len*n<=16777216 then some (.c (.ref s.st.length),s.st ++ [⟨e,n,rows,true,true⟩]) else none
  | _,_,_=>none
 | none=>none
theorem XZ (h:Core w0 St0 St β s a w):∀ (ps:List (Nat×Operand)),ps.all (fun p=>Ap p.2)=true->∀ (j:Nat) (p:Nat×AV),(I5 s ps)[j]?=some p ->
  ∃ q:Nat×Value,(ps.map fun x=>(x.1,a.eval x.2))[j]?=some q/\q.1=p.1/\AVR w St s.st β p.2 q.2
 | [],_,j,p,hj=>by simp[I5] at hj
 | q::ps,hc,j,p,hj=>by
  simp only[aI,ar] at hc;simp only[I5] at hj;cases j with
  | zero =>
   simp only[ab,ai] at hj
   subst hj
   exact⟨_,rfl,rfl,CU h q.2 hc.1⟩
  | succ j =>
   simp only[ae] at hj
   simpa using XZ h ps hc.2 j p hj
theorem dH (ps:List (Nat×Operand)):(I5 s ps).length=ps.length:=by
 induction ps with
 | nil=>rfl
 | cons p ps ih=>simp[I5,ih]
theorem kD:∀ (ps:List (Nat×AV)) (k n:Nat) (rows:List (List Cl)),Vf ps k n=some rows->rows.length=ps.length/\∀ x∈rows,x.length=n
 | [],k,n,rows,h=>by simp[Vf] at h; subst h; simp
 | (i,x)::ps,k,n,rows,h=>by
  simp only[Vf] at h;split at h
  .rename_i cs rs hcs hrs;split at h
   .rename_i hik;simp only[ai] at h;subst h;obtain⟨h1,h2⟩:=kD ps (k+1) n rs hrs
    exact⟨by simp[h1],fun y hy=>by
     rcases TM.1 hy with rfl | hy
     .exact hik.2
     .exact h2 y hy⟩
   .cases h
  .cases h
theorem jC (h:Core w0 St0 St β s a w) (o:Oper) (T:TypeId) (len:Nat) (ps:Array (Nat×Operand)) (ho:o.op = .buildSlice T len ps) (hc:ps.toList.all (fun p=>Ap p.2)=true) {y:AV} {st':List Ob} (hy:MF P s T len ps.toList=some (y,st')):Does P a w w0 St0 s o y st':=by
 unfold MF at hy;split at hy
 .rename_i e hte;have ht:=Ju hte;split at hy
  .rename_i n cs0 rows hs hz0 hrows;obtain⟨zs,hz,_,rfl⟩:=O6 hz0;split at hy
   .rename_i hcond;obtain⟨hlen,hzl0,hn,hmax⟩:=hcond;have hzl:zs.length=n:=AP2;simp only[ai,bb] at hy;obtain⟨rfl,rfl⟩:=hy;rw[hs] at hrows;simp only[au] at hrows;obtain⟨r1,r2⟩:=kD _ _ _ _ hrows;obtain⟨z,hz1,hz2⟩:=Vd hz w;have hzs:z.cells.size=n:=by rw[<- hzl,<- hz2]; simp
    have hpl:=dH (s:=s) ps.toList;let A:Array Value:=if len*n=0 then #[] else(Array.range (len*n)).map (z.cells[· % z.cells.size]!)
    have hAs:A.size=len*n:=by
     show (if len*n=0 then #[] else(Array.range (len*n)).map (z.cells[· % z.cells.size]!):Array Value).size=len*n;split
     .rename_i h0; simp[h0]
     .simp
    obtain⟨B,b1,b2,_,_,b5⟩:=kC (w:=w) (St:=St) (β:=β) (st:=s.st) n hn (I5 s ps.toList) (ps.toList.map fun x=>(x.1,a.eval x.2)) 0 rows A (by simp[hpl]) (XZ h ps.toList hc) hrows (by rw[hAs,<- hlen,r1]; simp);simp only[Nat.zero_mul,nY] at b5;obtain⟨β',q1,q2,q3⟩:=h.newCells e n rows B r2 b5;refine⟨_,.slice (some ⟨w.heap.size,0,none⟩) len len,_,St,β', ?_,.inl rfl,q1, ?_⟩
    .have hmap:(ps.map fun(x:Nat×Operand)=>(x.1,a.eval x.2)).toList=ps.toList.map fun x=>(x.1,a.eval x.2):=by simp
     have hnm:¬ (16777216<len*n):=AOl;by_cases h0:len*n=0
     .have hA0:A = #[]:=by show (if len*n=0 then #[] else _)=_; rw[aV h0]
      rw[hA0] at b1;have h00:len=0\/n=0:=Nat.mul_eq_zero.1 h0;simp only[execOp,ho,Instr.buildSlice,Sem.run_bind,run_underlying ht,Result.andThen_ok,IM hs];have hr0:(Array.range 0).map (fun i=>(#[]:Array Value)[i%(#[]:Array Value).size]!) = #[]:=AOm;simp only[gt_iff_lt,Nat.reducePow,h0,aO,aR (Nat.not_lt_zero 16777216),Sem.run_bind,Sem.run_pure,Result.andThen_ok,hmap,hr0,b1,newRow,run_newObj,World.alloc_eq]
     .have hA1:A=(Array.range (len*n)).map (z.cells[· % z.cells.size]!):=by show (if len*n=0 then #[] else _)=_; rw[aR h0]
      rw[hA1] at b1;simp only[execOp,ho,Instr.buildSlice,Sem.run_bind,run_underlying ht,Result.andThen_ok,IM hs];simp only[gt_iff_lt,Nat.reducePow,aR hnm,aR h0,Sem.run_bind,hz1,Sem.run_pure,Result.andThen_ok,hmap,b1,newRow,run_newObj,World.alloc_eq]
    .simp only[AVR,RdC,BQ];rw[aS (aG _)];simp only[jv,ab,q2];refine⟨rfl,fun _=>⟨len,B,by rw[hlen],AOl, ?_,alloc_at w _,by rw[b2,hAs]⟩⟩;have:len<=len*n:=Nat.le_mul_of_pos_right _ hn;simp only[maxLen]; omega
   .cases hy
  .cases hy
 .cases hy
def Um (P:Program) (s:MS) (T:TypeId) (ps:List (Nat×Operand)):Option (AV×List Ob):=match Uj P T with
 | some z=>match j_ P T z (I5 s ps) with
  | some cs=>some (.agg cs,s.st)
  | none=>none
 | none=>none
theorem YY {T:TypeId} {fs:Array Field} (hu:P.underlying T=some (.struct fs)) {st:List Ob} (places:Array (Nat×Nat)) (hpl:∀ (i off:Nat) (ft:TypeId) (n:Nat),AC P T i=some (off,ft)->Af P ft=some n->places[i]?=some (off,n)) :
  ∀ (ps:List (Nat×AV)) (vs:List (Nat×Value)) (F F':List Cl) (A:Array Value),
  vs.length=ps.length->(∀ (j:Nat) (p:Nat×AV),ps[j]?=some p->∃ q:Nat×Value,vs[j]?=some q/\q.1=p.1/\AVR w St st β p.2 q.2)->j_ P T F ps=some F'->A.size=F.length ->
  (∀ (k:Nat) (c:Cl),F[k]?=some c->∃ u,A.toList[k]?=some u/\RdC w St st β c u) ->
  ∃ B:Array Value,Instr.fill (places[·]?) A vs=some B/\B.size=F'.length/\(∀ (k:Nat) (c:Cl),F'[k]?=some c->∃ u,B.toList[k]?=some u/\RdC w St st β c u)
 | [],vs,F,F',A,hl,_,hf,hA,hc=>by simp only[j_,ai] at hf;subst hf;have:vs = []:=aam APf;subst this;exact⟨A,rfl,hA,hc⟩
 | (i,x)::ps,vs,F,F',A,hl,hvs,hf,hA,hc=>by
  cases vs with
  | nil=>simp at hl
  | cons v vs =>
   obtain⟨q,hq1,hq2,hq3⟩:=hvs 0 (i,x) rfl
   simp only[ab,ai] at hq1
   subst hq1
   obtain⟨vi,vv⟩:=v
   simp only at hq2 hq3
   subst hq2
   simp only[j_] at hf
   split at hf
   .rename_i off ft cs hfi hcs
    split at hf
    .rename_i n hn
     split at hf
     .rename_i hcond
      obtain⟨hcl,hle⟩:=hcond
      obtain⟨c1,c2⟩:=TN hq3 hcs
      have hvl:vv.cells.toList.length=n:=AOl
      have hvsz:vv.cells.size=n:=by simpa using hvl
      have hAl:A.toList.length=A.size:=AOm
      obtain⟨B,b1,b2,b3⟩:=YY hu places hpl ps vs _ F' (A.toList.take off++(vv.cells.toList++A.toList.drop (off+n))).toArray APf
       (fun j p hj=>by simpa using hvs (j+1) p (by simpa using hj)) hf (by simp only[aa9,aP,aU,aaM]; omega)
       (fun k c hk=>by simpa using YX hc hle hcl hvl c2 AOl k c hk)
      exact⟨B,by rw[jy _ A vi off n vv vs (hpl vi off ft n hfi hn) hvsz AOl]; exact b1,b2,b3⟩
     .cases hf
    .cases hf
   .cases hf
theorem run_places {fs:Array Field} (hall:∀ x∈fs.toList,∃ n,Af P x.type=some n) (w:World) :
  (fs.mapM fun(f:Field)=>(do pure (f.offset,<- sizeOf f.type):Sem (Nat×Nat))).run P w = .ok (fs.map fun f=>(f.offset,(Af P f.type).getD 0)) w:=by
 rw[abq]
 have key:∀ (l:List Field),(∀ x∈l,∃ n,Af P x.type=some n)->(l.mapM fun(f:Field)=>(do pure (f.offset,<- sizeOf f.type):Sem (Nat×Nat))).run P w = .ok (l.map fun f=>(f.offset,(Af P f.type).getD 0)) w:=by
  intro l;induction l with
  | nil=>intro _; simp
  | cons x l ih =>
   intro hl
   obtain⟨n,hn⟩:=hl x AOm
   have:=ih (fun y hy=>hl y AP_)
   simp only[List.mapM_cons,Sem.run_bind,IM hn,Result.andThen_ok,Sem.run_pure,this,ao,hn,au]
 rw[Sem.run_map,key _ hall]
 simp only[Result.andThen_ok]
 congr 1
 apply abm
 simp
def EG (P:Program) (T:TypeId):Bool:=match P.underlying T with
 | some (.struct fs)=>fs.toList.all fun x=>(Af P x.type).isSome
 | _=>false
theorem ADa (h:Core w0 St0 St β s a w) (o:Oper) (T:TypeId) (ps:Array (Nat×Operand)) (ho:o.op = .build T ps) (hfo:EG P T=true) (hc:ps.toList.all (fun p=>Ap p.2)=true) {y:AV} {st':List Ob} (hy:Um P s T ps.toList=some (y,st')):Does P a w w0 St0 s o y st':=by
 unfold EG at hfo;split at hfo
 .rename_i fs hu;unfold Um at hy;split at hy
  .rename_i z0 hz0;obtain⟨zs,hz,hwf,rfl⟩:=O6 hz0
   .split at hy
    .rename_i cs hcs;simp only[ai,bb] at hy;obtain⟨rfl,rfl⟩:=hy;obtain⟨z,hz1,hz2⟩:=Vd hz w;have hall:∀ x∈fs.toList,∃ n,Af P x.type=some n:=fun x hx=>Option.isSome_iff_exists.1 (aC.1 hfo x hx);have hpl:=dH (s:=s) ps.toList
     obtain⟨B,b1,b2,b3⟩:=YY (w:=w) (St:=St) (β:=β) (st:=s.st) hu (fs.map fun f=>(f.offset,(Af P f.type).getD 0)) (fun i off ft n h1 h2=>by
      obtain⟨fs',x,q1,q2,q3,q4⟩:=Ul h1;rw[hu] at q1;simp only[ai,TypeDesc.struct.injEq] at q1;subst q1;simp[q2,q3,q4,h2]) (I5 s ps.toList) (ps.toList.map fun x=>(x.1,a.eval x.2)) (zs.map .v) cs z.cells (by simp[hpl]) (XZ h ps.toList hc) hcs (by rw[aa,<- hz2]; simp) (fun k c hk=>by simp only[nX,aao] at hk;obtain⟨v,hv,rfl⟩:=hk;refine⟨v,by rw[hz2]; exact hv, ?_⟩;simp only[RdC,RdD,true_and];exact aC.1 hwf v (aT hv))
     have hmap:(ps.map fun(x:Nat×Operand)=>(x.1,a.eval x.2)).toList=ps.toList.map fun x=>(x.1,a.eval x.2):=AOm;refine⟨_,.agg B,_,St,β, ?_,.inl rfl,h, ?_⟩
     .simp only[execOp,ho,Instr.build,Sem.run_bind,hz1,run_underlying hu,Result.andThen_ok,run_places hall,hmap];simp only[b1,Sem.run_pure,Result.andThen_ok,Sem.run_bind]
     .simp only[AVR];exact⟨B.toList,AOm,by simpa using b2,b3⟩
    .cases hy
  .cases hy
 .cases hfo
def RdA (w:World) (St:Nat->Nat->Prop):AV->Value->Prop
 | .c x,u=>RdD w St x u
 | .agg xs,u=>∃ us:List Value,u = .agg us.toArray/\us.length=xs.length/\∀ (k:Nat) (c:Cl),xs[k]?=some c->∃ y,us[k]?=some y/\RdD w St c y
 | .clo f xs,u=>∃ us:List Value,u = .func (.func f) #[] us.toArray/\us.length=xs.length/\∀ (k:Nat) (c:List Cl),xs[k]?=some c->∃ b off,us[k]?=some (.pointer (some ⟨b,off,none⟩))/\RdL w St c b off
 | .ip xs,u=>∃ b off,u = .pointer (some ⟨b,off,none⟩)/\RdL w St xs b off
 | _,_=>False
theorem RdA.mono {w w':World} {St St':Nat->Nat->Prop} (hS:∀ b o,St b o->St' b o) (hw:∀ b o,St b o->w'.cell? ⟨b,o,none⟩=w.cell? ⟨b,o,none⟩) {x:AV} {u:Value} (h:RdA w St x u):RdA w' St' x u:=by
 cases x with
 | c x=>exact RdD.mono hS hw _ _ h
 | agg xs =>
  obtain⟨us,h1,h2,h3⟩:=h
  refine⟨us,h1,h2,fun k c hk=>?_⟩
  grind [RdD.mono]
 | clo f xs =>
  obtain⟨us,h1,h2,h3⟩:=h
  refine⟨us,h1,h2,fun k c hk=>?_⟩
  grind [RdL.mono]
 | ip xs =>
  obtain⟨b,off,h1,h2⟩:=h
  exact⟨b,off,h1,RdL.mono hS hw _ _ _ h2⟩
 | _=>exact h.elim
theorem RdA.toAVR {w:World} {St:Nat->Nat->Prop} {st:List Ob} {β:Nat->Option Nat} {x:AV} {u:Value} (h:RdA w St x u):AVR w St st β x u:=by
 cases x with
 | c x=>simp only[AVR]; exact RdD.toC h
 | agg xs =>
  obtain⟨us,h1,h2,h3⟩:=h
  simp only[AVR]
  grind [RdD.toC]
 | clo f xs=>simp only[AVR]; exact h
 | ip xs=>simp only[AVR]; exact h
 | _=>exact h.elim
mutual
def uO:Cl->Prop
 | .v x=>Qv x=true
 | .ref _=>True
 | .ow _ _ xs=>xs.length<=maxLen/\kE xs
 | .sl xs=>xs.length<=maxLen/\kE xs
def kE:List (List Cl)->Prop
 | []=>True
 | x::xs=>Xa x/\kE xs
def Xa:List Cl->Prop
 | []=>True
 | c::cs=>uO c/\Xa cs
end
def WfA:AV->Prop
 | .c x=>uO x
 | .agg xs=>Xa xs
 | _=>True
mutual
theorem RdD.wf {w:World} {St:Nat->Nat->Prop}:∀ (c:Cl) (u:Value),RdD w St c u->uO c
 | .v x,u,h=>by simp only[RdD] at h; simp only[uO]; exact h.2
 | .ref _,_,h=>by simp[RdD] at h
 | .ow _ _ _,_,h=>by simp[RdD] at h
 | .sl xs,u,h=>by
  simp only[RdD] at h;simp only[uO];obtain⟨a,cap,h1,h2,h3,h4,h5⟩:=h;refine⟨AOl, ?_⟩;rcases h5 with rfl | ⟨b,off,_,h6⟩
  .simp[kE]
  .exact RdE.wf xs b off h6
theorem RdE.wf {w:World} {St:Nat->Nat->Prop}:∀ (xs:List (List Cl)) (b off:Nat),RdE w St xs b off->kE xs
 | [],_,_,_=>by simp[kE]
 | x::xs,b,off,h=>by simp only[RdE] at h;simp only[kE];exact⟨RdL.wf x b off h.1,RdE.wf xs b _ h.2⟩
theorem RdL.wf {w:World} {St:Nat->Nat->Prop}:∀ (cs:List Cl) (b off:Nat),RdL w St cs b off->Xa cs
 | [],_,_,_=>by simp[Xa]
 | c::cs,b,off,h=>by simp only[RdL] at h;simp only[Xa];obtain⟨⟨_,u,_,h3⟩,h4⟩:=h;exact⟨RdD.wf c u h3,RdL.wf cs b _ h4⟩
end
theorem dI:∀ (cs:List Cl),(∀ (k:Nat) (c:Cl),cs[k]?=some c->uO c)->Xa cs
 | [],_=>by simp[Xa]
 | c::cs,h=>by simp only[Xa];exact⟨h 0 c rfl,dI cs fun k c hk=>h (k+1) c APQ⟩
theorem RdA.wf {w:World} {St:Nat->Nat->Prop} {x:AV} {u:Value} (h:RdA w St x u):WfA x:=by
 cases x with
 | c x=>exact RdD.wf _ _ h
 | agg xs =>
  obtain⟨us,_,_,h3⟩:=h
  refine dI xs fun k c hk=>?_
  grind [RdD.wf]
 | clo f xs=>exact trivial
 | ip xs=>exact trivial
 | _=>exact h.elim
theorem ZY:∀ {xs:List (List Cl)},kE xs->∀ x∈xs,Xa x
 | [],_,x,h=>APN
 | y::xs,h,x,hx=>by
  simp only[kE] at h;rcases TM.1 hx with rfl | hx
  .exact h.1
  .exact ZY h.2 x hx
theorem ADb:∀ (xs:List (List Cl)),(∀ x∈xs,Xa x)->kE xs
 | [],_=>by simp[kE]
 | y::xs,h=>by simp only[kE];exact⟨h y AOm,ADb xs fun x hx=>h x AP3⟩
def fzL (st:List Ob):List Cl->Option (List Cl×List Ob)
 | []=>some ([],st)
 | c::cs=>match fzC st c,fzL (uH st c) cs with
  | some c',some (cs',st')=>some (c'::cs',st')
  | _,_=>none
def fzA (st:List Ob):AV->Option (AV×List Ob)
 | .c x=>match fzC st x with
  | some y=>some (.c y,uH st x)
  | none=>none
 | .agg xs=>match fzL st xs with
  | some (ys,st')=>some (.agg ys,st')
  | none=>none
 | .clo f xs=>some (.clo f xs,st)
 | .ip xs=>some (.ip xs,st)
 | _=>none
def Xb (st:List Ob):List AV->Option (List AV×List Ob)
 | []=>some ([],st)
 | x::xs=>match fzA st x with
  | some (y,st')=>match Xb st' xs with
   | some (ys,st'')=>some (y::ys,st'')
   | none=>none
  | none=>none
theorem oG (h:Core w0 St0 St β s a w) {c c':Cl} (hc:fzC s.st c=some c') :
  ∃ St',Core w0 St0 St' β ⟨s.n,s.env,uH s.st c⟩ a w/\(∀ b o,St b o->St' b o)/\(∀ l u,BQ w s.st β l u->BQ w (uH s.st c) β l u)/\∀ u,RdB w St s.st β c u->RdD w St' c' u:=by
 unfold fzC at hc
 split at hc
 .simp only[ai] at hc
  subst hc
  refine⟨St,h,fun _ _ h=>h,fun _ _ h=>h,fun u hu=>?_⟩
  simp only[RdB,RdC,RdD] at hu ⊢
  obtain⟨rfl,_⟩:=hu
  exact⟨none,0,rfl,AOm,by simp[maxLen],⟨0,AOm⟩,.inl trivial⟩
 .cases hc
 .exact AN4
 .exact AN4
 .rename_i l
  split at hc
  .rename_i ob hob
   split at hc
   .rename_i hp
    simp only[ai] at hc
    subst hc
    obtain⟨St',h1,h2,h3,_⟩:=h.freeze l hob hp
    exact⟨St',h1,h2,fun l' u hu=>(XX l' u).2 hu,h3⟩
   .cases hc
  .cases hc
 .cases hc
theorem ADc:∀ (cs:List Cl) (st:List Ob) (cs':List Cl) (st':List Ob) (St:Nat->Nat->Prop),Core w0 St0 St β ⟨s.n,s.env,st⟩ a w->fzL st cs=some (cs',st') ->
  ∃ St',Core w0 St0 St' β ⟨s.n,s.env,st'⟩ a w/\(∀ b o,St b o->St' b o)/\(∀ l u,BQ w st β l u->BQ w st' β l u)/\cs'.length=cs.length/\∀ (k:Nat) (c:Cl),cs'[k]?=some c->∃ d,cs[k]?=some d/\∀ u,RdB w St st β d u->RdD w St' c u
 | [],st,cs',st',St,h,hf=>by simp only[fzL,ai,bb] at hf;obtain⟨rfl,rfl⟩:=hf;exact⟨St,h,fun _ _ h=>h,fun _ _ h=>h,rfl,fun k c hk=>APZ⟩
 | c::cs,st,cs',st',St,h,hf=>by
  simp only[fzL] at hf;split at hf
  .rename_i c1 cs1 st1 hc1 hcs1;simp only[ai,bb] at hf;obtain⟨rfl,rfl⟩:=hf;obtain⟨St1,q1,q2,q3,q4⟩:=oG h hc1;obtain⟨St2,r1,r2,r3,r4,r5⟩:=ADc cs (uH st c) cs1 st1 St1 q1 hcs1;refine⟨St2,r1,fun b o hbo=>r2 b o (q2 b o hbo),fun l u hu=>r3 l u (q3 l u hu),by simp[r4],fun k d hk=>?_⟩;cases k with
   | zero =>
    simp only[ab,ai] at hk
    subst hk
    exact⟨c,rfl,fun u hu=>RdD.mono r2 (fun _ _ _=>rfl) _ _ (q4 u hu)⟩
   | succ k =>
    obtain⟨d',hd1,hd2⟩:=r5 k d APQ
    exact⟨d',by simpa using hd1,fun u hu=>hd2 u (RdB.mono q2 (fun _ _ _=>rfl) q3 _ _ hu)⟩
  .cases hf
theorem Un {st st':List Ob} (hlen:∀ (l:Nat) (ob:Ob),st[l]?=some ob->∃ ob':Ob,st'[l]?=some ob'/\ob'.sz=ob.sz/\(ob'.live=true->ob.live=true)) {St St':Nat->Nat->Prop} {w w':World} :
  ∀ l i off u,AVR w St st β (.lp l i off) u->AVR w' St' st' β (.lp l i off) u:=by
 intro l i off u hu
 simp only[AVR] at hu ⊢
 grind
theorem ADd {x y:AV} {st st':List Ob} {St:Nat->Nat->Prop} (h:Core w0 St0 St β ⟨s.n,s.env,st⟩ a w) (hf:fzA st x=some (y,st')) :
  ∃ St',Core w0 St0 St' β ⟨s.n,s.env,st'⟩ a w/\(∀ b o,St b o->St' b o)/\(∀ l u,BQ w st β l u->BQ w st' β l u)/\∀ u,AVR w St st β x u->RdA w St' y u:=by
 unfold fzA at hf
 split at hf
 .rename_i c
  split at hf
  .rename_i c' hc
   simp only[ai,bb] at hf
   obtain⟨rfl,rfl⟩:=hf
   obtain⟨St',q1,q2,q3,q4⟩:=oG h hc
   exact⟨St',q1,q2,q3,fun u hu=>q4 u (RdC.toB (by simpa only[AVR] using hu))⟩
  .cases hf
 .rename_i xs
  split at hf
  .rename_i ys st1 hl
   simp only[ai,bb] at hf
   obtain⟨rfl,rfl⟩:=hf
   obtain⟨St',q1,q2,q3,q4,q5⟩:=ADc xs st ys st1 St h hl
   refine⟨St',q1,q2,q3,fun u hu=>?_⟩
   simp only[AVR] at hu
   obtain⟨us,h1,h2,h3⟩:=hu
   refine⟨us,h1,by rw[h2,q4],fun k c hk=>?_⟩
   obtain⟨d,hd1,hd2⟩:=q5 k c hk
   obtain⟨u,hu1,hu2⟩:=h3 k d hd1
   exact⟨u,hu1,hd2 u hu2.toB⟩
  .cases hf
 .exact AMp
 .exact AMp
 .cases hf
theorem uP {st:List Ob} {l l':Nat} {ob:Ob} (h:st[l']?=some ob):∃ ob',(Qw st l)[l']?=some ob'/\ob'.sz=ob.sz/\(ob'.live=true->ob.live=true):=by unfold Qw;grind
theorem uQ {st:List Ob} {c:Cl} {l':Nat} {ob:Ob} (h:st[l']?=some ob):∃ ob',(uH st c)[l']?=some ob'/\ob'.sz=ob.sz/\(ob'.live=true->ob.live=true):=by
 cases c with
 | ref l=>exact uP h
 | _=>exact⟨ob,h,rfl,id⟩
theorem AAV:∀ {cs cs':List Cl} {st st':List Ob},fzL st cs=some (cs',st')->∀ {l':Nat} {ob:Ob},st[l']?=some ob->∃ ob',st'[l']?=some ob'/\ob'.sz=ob.sz/\(ob'.live=true->ob.live=true)
 | [],cs',st,st',hf,l',ob,h=>by simp only[fzL,ai,bb] at hf;obtain⟨_,rfl⟩:=hf;exact⟨ob,h,rfl,id⟩
 | c::cs,cs',st,st',hf,l',ob,h=>by
  simp only[fzL] at hf;split at hf
  .rename_i c1 cs1 st1 hc1 hcs1;simp only[ai,bb] at hf;obtain⟨_,rfl⟩:=hf;obtain⟨o1,p1,p2,p3⟩:=uQ (c:=c) h;obtain⟨o2,r1,r2,r3⟩:=AAV hcs1 p1;exact⟨o2,r1,r2.trans p2,fun hl=>p3 (r3 hl)⟩
  .cases hf
theorem AAW {x y:AV} {st st':List Ob} (hf:fzA st x=some (y,st')) {l':Nat} {ob:Ob} (h:st[l']?=some ob):∃ ob',st'[l']?=some ob'/\ob'.sz=ob.sz/\(ob'.live=true->ob.live=true):=by
 unfold fzA at hf;split at hf
 .split at hf
  .simp only[ai,bb] at hf;obtain⟨_,rfl⟩:=hf;exact uQ h
  .cases hf
 .grind [ai,bb,AAV]
 .grind
 .grind
 .cases hf
def RdAs (w:World) (St:Nat->Nat->Prop):List AV->List Value->Prop
 | [],us=>us = []
 | x::xs,us=>∃ y ys,us=y::ys/\RdA w St x y/\RdAs w St xs ys
theorem RdAs.mono {w w':World} {St St':Nat->Nat->Prop} (hS:∀ b o,St b o->St' b o) (hw:∀ b o,St b o->w'.cell? ⟨b,o,none⟩=w.cell? ⟨b,o,none⟩):∀ {xs:List AV} {us:List Value},RdAs w St xs us->RdAs w' St' xs us
 | [],_,h=>h
 | x::xs,us,h=>by obtain⟨y,ys,h1,h2,h3⟩:=h;exact⟨y,ys,h1,h2.mono hS hw,RdAs.mono hS hw h3⟩
def ABn:List AV->Prop
 | []=>True
 | x::xs=>WfA x/\ABn xs
theorem dJ {w:World} {St:Nat->Nat->Prop}:∀ {xs ys:List AV} {us vs:List Value},RdAs w St xs us->RdAs w St ys vs->RdAs w St (xs++ys) (us++vs)
 | [],ys,us,vs,h1,h2=>by simp only[RdAs] at h1; subst h1; exact h2
 | x::xs,ys,us,vs,h1,h2=>by obtain⟨y,zs,rfl,h3,h4⟩:=h1;exact⟨y,zs++vs,rfl,h3,dJ h4 h2⟩
theorem Xc {w:World} {St:Nat->Nat->Prop}:∀ {xs:List (List Cl)} {us:List Value},us.length=xs.length->(∀ (k:Nat) (c:List Cl),xs[k]?=some c->∃ b off,us[k]?=some (.pointer (some ⟨b,off,none⟩))/\RdL w St c b off)->RdAs w St (xs.map AV.ip) us
 | [],us,hl,_=>aam APf
 | x::xs,[],hl,_=>AQP
 | x::xs,u::us,hl,h=>by obtain⟨b,off,hy,hr⟩:=h 0 x rfl;simp only[ab,ai] at hy;exact⟨u,us,rfl,⟨b,off,hy,hr⟩,Xc APf fun k c hk=>by simpa using h (k+1) c APQ⟩
theorem RdAs.wf {w:World} {St:Nat->Nat->Prop}:∀ {xs:List AV} {us:List Value},RdAs w St xs us->ABn xs
 | [],_,_=>trivial
 | x::xs,us,h=>by obtain⟨y,ys,h1,h2,h3⟩:=h;exact⟨h2.wf,h3.wf⟩
theorem Vg:∀ (xs ys:List AV) (st st':List Ob) (St:Nat->Nat->Prop),Core w0 St0 St β ⟨s.n,s.env,st⟩ a w->Xb st xs=some (ys,st') ->
  ∃ St',Core w0 St0 St' β ⟨s.n,s.env,st'⟩ a w/\(∀ b o,St b o->St' b o)/\∀ us,AVRs w St st β xs us->RdAs w St' ys us
 | [],ys,st,st',St,h,hf=>by simp only[Xb,ai,bb] at hf;obtain⟨rfl,rfl⟩:=hf;exact⟨St,h,fun _ _ h=>h,fun us hu=>by simpa only[AVRs,RdAs] using hu⟩
 | x::xs,ys,st,st',St,h,hf=>by
  simp only[Xb] at hf;split at hf
  .rename_i y st1 hy;split at hf
   .rename_i ys1 st2 hys;simp only[ai,bb] at hf;obtain⟨rfl,rfl⟩:=hf;obtain⟨St1,q1,q2,q3,q4⟩:=ADd h hy;obtain⟨St2,r1,r2,r3⟩:=Vg xs ys1 st1 st2 St1 q1 hys;refine⟨St2,r1,fun b o hbo=>r2 b o (q2 b o hbo),fun us hu=>?_⟩;simp only[AVRs] at hu;obtain⟨u,us',rfl,h1,h2⟩:=hu;refine⟨u,us',rfl,(q4 u h1).mono r2 (fun _ _ _=>rfl),r3 us' ?_⟩;exact AVRs.mono q2 (fun _ _ _=>rfl) q3 (Un fun l ob hl=>AAW hy hl) xs us' h2
   .cases hf
  .cases hf
mutual
def er:Cl->Cl
 | .ow _ _ xs=>.sl (Qq xs)
 | .v x=>.v x
 | .sl xs=>.sl xs
 | .ref l=>.ref l
def Qq:List (List Cl)->List (List Cl)
 | []=>[]
 | x::xs=>Kq x::Qq xs
def Kq:List Cl->List Cl
 | []=>[]
 | c::cs=>er c::Kq cs
end
theorem Vh:∀ (cs:List Cl),(Kq cs).length=cs.length
 | []=>rfl
 | c::cs=>by simp[Kq,Vh cs]
theorem oH:∀ (xs:List (List Cl)),(Qq xs).length=xs.length
 | []=>rfl
 | x::xs=>by simp[Qq,oH xs]
theorem yM:∀ {cs:List Cl} {k:Nat} {c:Cl},(Kq cs)[k]?=some c->∃ d,cs[k]?=some d/\c=er d
 | [],k,c,h=>by simp[Kq] at h
 | d::cs,0,c,h=>by simp only[Kq,ab,ai] at h; exact⟨d,rfl,h.symm⟩
 | d::cs,k+1,c,h=>by simp only[Kq,ae] at h ⊢; exact yM h
theorem oI:∀ {xs:List (List Cl)} {k:Nat} {x:List Cl},(Qq xs)[k]?=some x->∃ y,xs[k]?=some y/\x=Kq y
 | [],k,c,h=>by simp[Qq] at h
 | d::cs,0,c,h=>by simp only[Qq,ab,ai] at h; exact⟨d,rfl,h.symm⟩
 | d::cs,k+1,c,h=>by simp only[Qq,ae] at h ⊢; exact oI h
theorem oJ {α:Type} (f:α->List Cl):∀ (l:List α),Qq (l.map f)=l.map fun x=>Kq (f x)
 | []=>rfl
 | x::l=>by simp[Qq,oJ f l]
mutual
theorem RdO.frz {w:World} {St:Nat->Nat->Prop}:∀ (c:Cl) (u:Value) (F:Nat->Prop),RdO w St c u F->RdD w (fun b o=>St b o\/F b) (er c) u
 | .v x,u,F,h=>by simp only[RdO,er,RdD] at h ⊢; exact h
 | .ref _,u,F,h=>by simp[RdO] at h
 | .sl xs,u,F,h=>by simp only[RdO,er] at h ⊢; exact RdD.mono (fun _ _ h=>.inl h) (fun _ _ _=>rfl) _ _ h
 | .ow ty sz xs,u,F,h=>by
  simp only[RdO] at h;simp only[er,RdD,oH];rcases h with ⟨rfl,rfl⟩ | ⟨b,cap,cs,G,rfl,h2,h3,h4,h5,h6,h7,h8,h9,h10⟩
  .exact⟨none,0,rfl,AOm,by simp[maxLen],⟨0,by simp[Qq]⟩,.inl (by simp[Qq])⟩
  .refine⟨some ⟨b,0,none⟩,cap,rfl,h2,h3,⟨sz,fun x hx=>?_⟩,.inr ⟨b,0,rfl, ?_⟩⟩
   .obtain⟨k,hk⟩:=abd.1 hx;obtain⟨y,hy,rfl⟩:=oI hk;rw[Vh]; exact h6 y (aT hy)
   .have:=RdOE.frz (w:=w) (St:=St) (b:=b) (ty:=ty) h4 xs 0 G h10
    exact RdE.mono (fun b' o hbo=>by
     rcases hbo with hbo | rfl | ⟨k,hk⟩
     .exact .inl hbo
     .exact .inr h7
     .exact .inr (h8 k b' hk).1) (fun _ _ _=>rfl) _ _ _ this
theorem RdOE.frz {w:World} {St:Nat->Nat->Prop} {b:Nat} {ty:TypeId} {cs:Array Value} (hb:w.heap[b]?=some (.cells cs ty (0,0))):∀ (xs:List (List Cl)) (n:Nat) (G:Nat->Nat->Prop),RdOE w St xs n cs G->RdE w (fun b' o=>St b' o\/b'=b\/∃ k,G k b') (Qq xs) b n
 | [],_,_,_=>by simp[Qq,RdE]
 | x::xs,n,G,h=>by simp only[RdOE,Qq,RdE,Vh] at h ⊢;exact⟨RdOL.frz hb x n G h.1,RdOE.frz hb xs _ G h.2⟩
theorem RdOL.frz {w:World} {St:Nat->Nat->Prop} {b:Nat} {ty:TypeId} {cs:Array Value} (hb:w.heap[b]?=some (.cells cs ty (0,0))):∀ (cl:List Cl) (n:Nat) (G:Nat->Nat->Prop),RdOL w St cl n cs G->RdL w (fun b' o=>St b' o\/b'=b\/∃ k,G k b') (Kq cl) b n
 | [],_,_,_=>by simp[Kq,RdL]
 | c::cl,n,G,h=>by
  simp only[RdOL,Kq,RdL] at h ⊢;obtain⟨⟨y,h1,h2⟩,h3⟩:=h
  exact⟨⟨.inr (.inl trivial),y,by simp[World.cell?,hb,h1],RdD.mono (fun b' o hbo=>by
   rcases hbo with hbo | hbo
   .exact .inl hbo
   .exact .inr (.inr ⟨n,hbo⟩)) (fun _ _ _=>rfl) _ _ (RdO.frz c y (G n) h2)⟩,RdOL.frz hb cl _ G h3⟩
end
theorem RdOL.at {w:World} {St:Nat->Nat->Prop} {cs:Array Value} {G:Nat->Nat->Prop}:∀ {cl:List Cl} {n:Nat},RdOL w St cl n cs G->∀ {k:Nat} {c:Cl},cl[k]?=some c->∃ y,cs[n+k]?=some y/\RdO w St c y (G (n+k))
 | [],_,_,k,c,hk=>APZ
 | d::cl,n,h,0,c,hk=>by simp only[RdOL] at h;simp only[ab,ai] at hk;subst hk;exact h.1
 | d::cl,n,h,k+1,c,hk=>by simp only[RdOL] at h;have:=RdOL.at h.2 (k:=k) (c:=c) APQ;rwa [show n+1+k=n+(k+1) from AOl] at this
theorem RdOE.at {w:World} {St:Nat->Nat->Prop} {cs:Array Value} {G:Nat->Nat->Prop}:∀ {xs:List (List Cl)} {n:Nat},RdOE w St xs n cs G->∀ {k:Nat} {c:Cl},xs.flatten[k]?=some c->∃ y,cs[n+k]?=some y/\RdO w St c y (G (n+k))
 | [],_,_,k,c,hk=>APZ
 | x::xs,n,h,k,c,hk=>by
  simp only[RdOE] at h;simp only[XV] at hk;rcases bh k x.length with h' | h'
  .rw[aY h'] at hk;exact h.1.at hk
  .rw[aS h'] at hk;have:=RdOE.at h.2 hk;rwa [show n+x.length+(k-x.length)=n+k from AOl] at this
theorem RdOL.mk {w:World} {St:Nat->Nat->Prop} {cs:Array Value} {G:Nat->Nat->Prop}:∀ {cl:List Cl} {n:Nat},(∀ (k:Nat) (c:Cl),cl[k]?=some c->∃ y,cs[n+k]?=some y/\RdO w St c y (G (n+k)))->RdOL w St cl n cs G
 | [],_,_=>by simp[RdOL]
 | d::cl,n,h=>by simp only[RdOL];refine⟨by simpa using h 0 d rfl,RdOL.mk fun k c hk=>?_⟩;have:=h (k+1) c APQ;rwa [show n+(k+1)=n+1+k from AOl] at this
theorem RdOE.mk {w:World} {St:Nat->Nat->Prop} {cs:Array Value} {G:Nat->Nat->Prop}:∀ {xs:List (List Cl)} {n:Nat},(∀ (k:Nat) (c:Cl),xs.flatten[k]?=some c->∃ y,cs[n+k]?=some y/\RdO w St c y (G (n+k)))->RdOE w St xs n cs G
 | [],_,_=>by simp[RdOE]
 | x::xs,n,h=>by
  simp only[RdOE];refine⟨RdOL.mk fun k c hk=>?_,RdOE.mk fun k c hk=>?_⟩
  .have hk':k<x.length:=(az.1 hk).1;exact h k c (by rw[XV,aY hk']; exact hk)
  .have:=h (x.length+k) c (by rw[XV,aS AOl]; rwa [show x.length+k-x.length=k from AOl]);rwa [show n+(x.length+k)=n+x.length+k from AOl] at this
theorem RdO.toB {w:World} {St:Nat->Nat->Prop} {st:List Ob} {β:Nat->Option Nat} {c:Cl} {u:Value} {F:Nat->Prop} (h:RdO w St c u F):RdB w St st β c u:=by
 cases c with
 | v x=>simp only[RdO] at h; exact(show RdD w St (.v x) u by simp only[RdD]; exact h)
 | sl xs=>simp only[RdO] at h; exact h
 | ref l=>simp[RdO] at h
 | ow ty sz xs =>
  simp only[RdO] at h
  rcases h with ⟨rfl,_⟩ | ⟨b,cap,cs,G,rfl,_⟩<;>rfl
theorem RdO.plain {w:World} {St:Nat->Nat->Prop} {c:Cl} {u:Value} {F:Nat->Prop} (hc:HY c=false):RdO w St c u F↔RdD w St c u:=by
 cases c with
 | v x=>simp only[RdO,RdD]
 | sl xs=>simp only[RdO]
 | ref l=>simp[RdO,RdD]
 | ow ty sz xs=>simp[HY] at hc
inductive Res where
 | val (x:AV)
 | own (ty:TypeId) (sz:Nat) (xs:List (List Cl)) (wr:Bool)
 | agg (cl:List Cl)
def Res1 (w':World) (St':Nat->Nat->Prop) (B:Nat):Res->Value->Option Nat->(Nat->Nat->Prop)->Prop
 | .val x,u,b,_=>RdA w' St' x u/\b=none
 | .own _ _ xs _,u,none,_=>u = .slice none 0 0/\xs = []
 | .own ty sz xs wr,u,some b,Φ=>B<=b/\b<w'.heap.size/\(∀ x∈xs,x.length=sz)/\(∀ o,St' b o->wr=false/\o<xs.length*sz) /\
   ∃ (cap:Nat) (cs:Array Value),u = .slice (some ⟨b,0,none⟩) xs.length cap/\xs.length<=cap/\cap<=maxLen/\w'.heap[b]?=some (.cells cs ty (0,0))/\cs.size=cap*sz /\
    ∀ (k:Nat) (c:Cl),xs.flatten[k]?=some c->∃ y,cs[k]?=some y/\RdO w' St' c y (Φ k)
 | .agg cl,u,b,Φ=>b=none/\∃ us:List Value,u = .agg us.toArray/\us.length=cl.length/\∀ (k:Nat) (c:Cl),cl[k]?=some c->∃ y,us[k]?=some y/\RdO w' St' c y (Φ k)
def ResR (w':World) (St':Nat->Nat->Prop) (B:Nat):List Res->List Value->List (Option Nat)->List (Nat->Nat->Prop)->Prop
 | [],us,bs,Φs=>us = []/\bs = []/\Φs = []
 | r::rs,us,bs,Φs=>∃ u us' b bs' Φ Φs',us=u::us'/\bs=b::bs'/\Φs=Φ::Φs'/\Res1 w' St' B r u b Φ/\ResR w' St' B rs us' bs' Φs'
structure FpOk (w':World) (St':Nat->Nat->Prop) (B:Nat) (bs:List (Option Nat)) (Φs:List (Nat->Nat->Prop)):Prop where
 nodup:∀ (i j b:Nat),bs[i]?=some (some b)->bs[j]?=some (some b)->i=j
 fresh:∀ (i:Nat) (Φ:Nat->Nat->Prop) (k x:Nat),Φs[i]?=some Φ->Φ k x->B<=x/\x<w'.heap.size/\(∀ o,¬ St' x o)/\∀ j:Nat,bs[j]?≠some (some x)
 dis:∀ (i i':Nat) (Φ Φ':Nat->Nat->Prop) (k k' x:Nat),Φs[i]?=some Φ->Φs[i']?=some Φ'->Φ k x->Φ' k' x->i=i'/\k=k'
theorem FpOk.tail {w':World} {St':Nat->Nat->Prop} {B:Nat} {b:Option Nat} {bs:List (Option Nat)} {Φ:Nat->Nat->Prop} {Φs:List (Nat->Nat->Prop)} (h:FpOk w' St' B (b::bs) (Φ::Φs)):FpOk w' St' B bs Φs where
 nodup:=fun i j x hi hj=>by have:=h.nodup (i+1) (j+1) x AOo AOo; omega
 fresh:=fun i Ψ k x hi hx=>by obtain⟨q1,q2,q3,q4⟩:=h.fresh (i+1) Ψ k x AOo hx;exact⟨q1,q2,q3,fun j hj=>q4 (j+1) AOo⟩
 dis:=fun i i' Ψ Ψ' k k' x hi hi' hx hx'=>by have:=h.dis (i+1) (i'+1) Ψ Ψ' k k' x AOo AOo hx hx';omega
def Xd:List Value->Value
 | [u]=>u
 | us=>.tuple us.toArray
structure Back (w:World) (St:Nat->Nat->Prop) (rs:List Res) (e:Ending) (w':World) (us:List Value) (bs:List (Option Nat)) (St':Nat->Nat->Prop):Prop where
 ret:e = .returned (Xd us)
 below:Below w.heap.size w w'
 st:∀ b o,St b o->St' b o
 stOld:∀ b o,St' b o->b<w.heap.size->St b o
 stIn:∀ b o,St' b o->b<w'.heap.size
 res:∃ Φs,ResR w' St' w.heap.size rs us bs Φs/\FpOk w' St' w.heap.size bs Φs
def CallsIn (P:Program) (f:FuncId):Prop:=∀ args w,(callFunc f args).run P w = .ok (.enter f args) w
def Ctr (P:Program) (f:FuncId) (args:List AV) (rs:List Res):Prop:=
 CallsIn P f/\∀ (w:World) (St:Nat->Nat->Prop) (vs:List Value),(∀ b o,St b o->b<w.heap.size)->RdAs w St args vs ->
  Calls P f vs.toArray w fun e w'=>∃ us bs St',Back w St rs e w' us bs St'
def WfR:Res->Prop
 | .val x=>WfA x
 | .own _ _ xs _=>xs.length<=maxLen/\kE xs
 | .agg cl=>Xa cl
def ZA:List Res->Prop
 | []=>True
 | r::rs=>WfR r/\ZA rs
theorem ABo {xs:List (List Cl)} {sz:Nat} {Q:Cl->Prop} (hl:∀ x∈xs,x.length=sz) (h:∀ (k:Nat) (c:Cl),xs.flatten[k]?=some c->Q c):∀ x∈xs,∀ (j:Nat) (c:Cl),x[j]?=some c->Q c:=by intro x hx j c hj;obtain⟨i,hi⟩:=abd.1 hx;exact h _ c (F6 hl i j x c hi hj)
mutual
theorem RdO.wf {w:World} {St:Nat->Nat->Prop}:∀ (c:Cl) (u:Value) (F:Nat->Prop),RdO w St c u F->uO c
 | .v x,u,F,h=>by simp only[RdO] at h; simp only[uO]; exact h.2
 | .sl xs,u,F,h=>by simp only[RdO] at h; exact RdD.wf _ _ h
 | .ref _,u,F,h=>by simp[RdO] at h
 | .ow ty sz xs,u,F,h=>by
  simp only[RdO] at h;simp only[uO];rcases h with ⟨_,rfl⟩ | ⟨b,cap,cs,G,_,h2,h3,_,_,_,_,_,_,h10⟩
  .exact⟨AOm,by simp[kE]⟩
  .exact⟨AOl,RdOE.wf xs 0 cs G h10⟩
theorem RdOE.wf {w:World} {St:Nat->Nat->Prop}:∀ (xs:List (List Cl)) (n:Nat) (cs:Array Value) (G:Nat->Nat->Prop),RdOE w St xs n cs G->kE xs
 | [],_,_,_,_=>by simp[kE]
 | x::xs,n,cs,G,h=>by simp only[RdOE] at h;simp only[kE];exact⟨RdOL.wf x n cs G h.1,RdOE.wf xs _ cs G h.2⟩
theorem RdOL.wf {w:World} {St:Nat->Nat->Prop}:∀ (cl:List Cl) (n:Nat) (cs:Array Value) (G:Nat->Nat->Prop),RdOL w St cl n cs G->Xa cl
 | [],_,_,_,_=>by simp[Xa]
 | c::cl,n,cs,G,h=>by simp only[RdOL] at h;simp only[Xa];obtain⟨⟨y,_,h2⟩,h3⟩:=h;exact⟨RdO.wf c y _ h2,RdOL.wf cl _ cs G h3⟩
end
theorem ResR.wf {w':World} {St':Nat->Nat->Prop} {B:Nat}:∀ {rs:List Res} {us:List Value} {bs:List (Option Nat)} {Φs:List (Nat->Nat->Prop)},ResR w' St' B rs us bs Φs->ZA rs
 | [],_,_,_,_=>trivial
 | r::rs,us,bs,Φs,h=>by
  obtain⟨u,us',b,bs',Φ,Φs',_,_,_,h1,h2⟩:=h;refine⟨?_,h2.wf⟩;cases r with
  | val x=>exact h1.1.wf
  | agg cl =>
   obtain⟨_,us2,_,_,h3⟩:=h1
   exact dI _ fun k c hk=>by obtain⟨y,_,hy⟩:=h3 k c hk; exact RdO.wf c y _ hy
  | own ty sz xs wr =>
   cases b with
   | none=>obtain⟨_,rfl⟩:=h1; exact⟨AOm,trivial⟩
   | some b =>
    obtain⟨_,_,hl,_,cap,cs,_,q1,q2,_,_,q3⟩:=h1
    refine⟨AOl,ADb _ fun x hx=>dI _ fun k c hk=>?_⟩
    exact ABo (Q:=uO) hl (fun k c hk=>by obtain⟨y,_,hy⟩:=q3 k c hk; exact RdO.wf c y _ hy) x hx k c hk
def oK:Res->Res
 | .val x=>.val x
 | .own _ _ xs _=>.val (.c (.sl (Qq xs)))
 | .agg cl=>.val (.agg (Kq cl))
theorem Vj {w w':World} {St St':Nat->Nat->Prop} {rs:List Res} {e:Ending} {us:List Value} {bs:List (Option Nat)} (hb:Back w St rs e w' us bs St'):∃ bs' St'',Back w St (rs.map oK) e w' us bs' St'':=by
 obtain⟨Φs,hr,hf⟩:=hb.res
 have key:∀ (rs:List Res) (us:List Value) (bs:List (Option Nat)) (Φs:List (Nat->Nat->Prop)) (T:Nat->Nat->Prop),ResR w' St' w.heap.size rs us bs Φs->(∀ b o,St' b o->T b o) ->
   (∀ (i b:Nat),bs[i]?=some (some b)->∀ o,T b o)->(∀ (i:Nat) (Φ:Nat->Nat->Prop) (k x:Nat),Φs[i]?=some Φ->Φ k x->∀ o,T x o)->∃ bs' Φs',ResR w' T w.heap.size (rs.map oK) us bs' Φs'/\(∀ i b:Nat,bs'[i]?≠some (some b))/\∀ (i:Nat) (Φ:Nat->Nat->Prop) (k x:Nat),Φs'[i]?=some Φ->¬ Φ k x:=by
  intro rs
  induction rs with
  | nil =>
   intro us bs Φs T h _ _ _
   obtain⟨rfl,_,_⟩:=h
   exact⟨[],[],⟨rfl,rfl,rfl⟩,fun i b=>AOm,fun i Φ k x h=>APN⟩
  | cons r rs ih =>
   intro us bs Φs T h hT hbs hΦ
   obtain⟨u,us',b,bs',Φ,Φs',rfl,rfl,rfl,h1,h2⟩:=h
   obtain⟨bs2,Φs2,q1,q2,q3⟩:=ih us' bs' Φs' T h2 hT (fun i b hi=>hbs (i+1) b AOo) (fun i Ψ k x hi=>hΦ (i+1) Ψ k x AOo)
   have hcell:∀ (c:Cl) (y:Value) (k:Nat),RdO w' St' c y (Φ k)->RdD w' T (er c) y:=fun c y k hy =>
    RdD.mono (fun b' o hbo=>by
     rcases hbo with hbo | hbo
     .grind
     .exact hΦ 0 Φ k b' rfl hbo o) (fun _ _ _=>rfl) _ _ (RdO.frz c y _ hy)
   have hcons:Res1 w' T w.heap.size (oK r) u none (fun _ _=>False):=by
    cases r with
    | val x=>exact⟨h1.1.mono hT (fun _ _ _=>rfl),rfl⟩
    | agg cl =>
     obtain⟨_,us2,e1,e2,e3⟩:=h1
     refine⟨⟨us2,e1,by rw[Vh]; exact e2,fun k c hk=>?_⟩,rfl⟩
     grind [yM]
    | own ty sz xs wr =>
     cases b with
     | none =>
      obtain⟨rfl,rfl⟩:=h1
      refine⟨?_,rfl⟩
      simp only[RdA,RdD,Qq]
      exact⟨none,0,rfl,AOm,by simp[maxLen],⟨0,AOm⟩,.inl AOm⟩
     | some b =>
      obtain⟨g1,g2,g3,g4,cap,cs,rfl,e2,e3,e4,e5,e6⟩:=h1
      refine⟨?_,rfl⟩
      simp only[RdA,RdD,oH]
      have hl:∀ x∈Qq xs,x.length=sz:=fun x hx=>by grind [abd,oI,Vh,aT]
      refine⟨some ⟨b,0,none⟩,cap,rfl,e2,e3,⟨sz,hl⟩,.inr ⟨b,0,rfl, ?_⟩⟩
      refine ADP sz hl fun i x hi=>ACj fun j c hj=>?_
      obtain⟨x0,hx0,rfl⟩:=oI hi
      obtain⟨c0,hc0,rfl⟩:=yM hj
      obtain⟨v,hv,hc⟩:=e6 _ c0 (F6 g3 i j x0 c0 hx0 hc0)
      refine⟨hbs 0 b rfl _,v, ?_,hcell c0 v _ hc⟩
      rw[World.cell?,e4]
      grind
   refine⟨none::bs2,(fun _ _=>False)::Φs2,⟨u,us',none,bs2,_,Φs2,rfl,rfl,rfl,hcons,q1⟩,fun i b=>?_,fun i Ψ k x hi hx=>?_⟩
   .grind
   .cases i with
    | zero=>grind
    | succ i=>exact q3 i Ψ k x AOo hx
 obtain⟨bs',Φs',q1,q2,q3⟩:=key rs us bs Φs (fun b o=>St' b o\/(∃ i:Nat,bs[i]?=some (some b))\/∃ (i:Nat) (Φ:Nat->Nat->Prop) (k:Nat),Φs[i]?=some Φ/\Φ k b) hr (fun _ _ h=>.inl h) (fun i b hi o=>.inr (.inl ⟨i,hi⟩)) (fun i Φ k x hi hx o=>.inr (.inr ⟨i,Φ,k,hi,hx⟩))
 have hblk:∀ (rs:List Res) (us:List Value) (bs:List (Option Nat)) (Φs:List (Nat->Nat->Prop)),ResR w' St' w.heap.size rs us bs Φs->∀ (i b:Nat),bs[i]?=some (some b)->w.heap.size<=b/\b<w'.heap.size:=by
  intro rs;induction rs with
  | nil=>intro us bs Φs h i b hi; obtain⟨_,rfl,_⟩:=h; simp at hi
  | cons r rs ih =>
   intro us bs Φs h i b hi
   obtain⟨u,us',b0,bs',Φ,Φs',rfl,rfl,rfl,h1,h2⟩:=h
   cases i with
   | succ i=>grind
   | zero =>
    simp only[ab,ai] at hi
    subst hi
    cases r with
    | val x=>exact absurd h1.2 AOm
    | own ty sz xs wr=>exact⟨h1.1,h1.2.1⟩
    | agg cl=>exact absurd h1.1 AOm
 refine⟨bs',_,⟨hb.ret,hb.below,fun b o h=>.inl (hb.st b o h), ?_, ?_,Φs',q1,⟨fun i j b hi=>absurd hi (q2 i b),fun i Φ k x hi hx=>(q3 i Φ k x hi hx).elim,fun i i' Φ Φ' k k' x hi _ hx=>(q3 i Φ k x hi hx).elim⟩⟩⟩
 .intro b o h hlt;rcases h with h | ⟨i,hi⟩ | ⟨i,Φ,k,hi,hx⟩
  .exact hb.stOld b o h hlt
  .grind
  .have:=(hf.fresh i Φ k b hi hx).1; omega
 .intro b o h;rcases h with h | ⟨i,hi⟩ | ⟨i,Φ,k,hi,hx⟩
  .exact hb.stIn b o h
  .grind
  .exact(hf.fresh i Φ k b hi hx).2.1
theorem Ctr.frz {P:Program} {f:FuncId} {args:List AV} {rs:List Res} (h:Ctr P f args rs):Ctr P f args (rs.map oK):=
 ⟨h.1,fun w St vs h1 h2=>(h.2 w St vs h1 h2).mono fun e w' ⟨us,bs,St',hb⟩=>by
  grind [Vj]⟩
theorem Core.addObB (h:Core w0 St0 St β s a w) (ob:Ob) (ob':Option Nat) (hnone:ob'=none->ob.xs = [])
  (hsome:∀ b,ob'=some b->w0.may b/\b<w.heap.size/\(∀ l o2,s.st[l]?=some o2->o2.live=true->β l≠some b)/\(∀ o,St b o->ob.wr=false/\o<ob.xs.length*ob.sz) /\
   ∃ cs:Array Value,w.heap[b]?=some (.cells cs ob.ty (0,0))/\(∀ x∈ob.xs,x.length=ob.sz)/\∀ (k:Nat) (c:Cl),ob.xs.flatten[k]?=some c->∃ u,cs[k]?=some u/\RdB w St s.st β c u)
  (hown:Own w0 (fun _=>False) w St (s.st ++ [ob]) (fun l=>if l=s.st.length then ob' else β l)) :
  Core w0 St0 St (fun l=>if l=s.st.length then ob' else β l) ⟨s.n,s.env,s.st ++ [ob]⟩ a w /\
   (∀ x u,AVR w St s.st β x u->AVR w St (s.st ++ [ob]) (fun l=>if l=s.st.length then ob' else β l) x u)/\(∀ x u,RdC w St s.st β x u->RdC w St (s.st ++ [ob]) (fun l=>if l=s.st.length then ob' else β l) x u):=by
 have hold:∀ l,l<s.st.length->(s.st ++ [ob])[l]?=s.st[l]?:=fun l hl=>AOo
 have hr:∀ l u,BQ w s.st β l u->BQ w (s.st ++ [ob]) (fun l=>if l=s.st.length then ob' else β l) l u:=by intro l u hu;have hl:=oC hu;unfold BQ at hu ⊢;have hne:¬ l=s.st.length:=AOl;simp only[hold l hl,hne,aL];exact hu
 have hp:∀ l i off u,AVR w St s.st β (.lp l i off) u->AVR w St (s.st ++ [ob]) (fun l=>if l=s.st.length then ob' else β l) (.lp l i off) u:=by exact AMy
 have hA:∀ x u,AVR w St s.st β x u->AVR w St (s.st ++ [ob]) (fun l=>if l=s.st.length then ob' else β l) x u:=fun x u hx=>AVR.mono (fun _ _ h=>h) (fun _ _ _=>rfl) hr hp x u hx
 have hC:∀ x u,RdC w St s.st β x u->RdC w St (s.st ++ [ob]) (fun l=>if l=s.st.length then ob' else β l) x u:=fun x u hx=>RdC.mono (fun _ _ h=>h) (fun _ _ _=>rfl) hr x u hx
 have hBB:∀ x u,RdB w St s.st β x u->RdB w St (s.st ++ [ob]) (fun l=>if l=s.st.length then ob' else β l) x u:=fun x u hx=>RdB.mono (fun _ _ h=>h) (fun _ _ _=>rfl) hr x u hx
 have hsplit:∀ l o2,(s.st ++ [ob])[l]?=some o2->(l<s.st.length/\s.st[l]?=some o2)\/(l=s.st.length/\o2=ob):=by exact AOV
 refine⟨?_,hA,hC⟩
 exact {
  defers:=h.defers
  size:=h.size
  lim:=h.lim
  env:=fun i=>hA _ _ (h.env i)
  below:=h.below
  st0:=h.st0
  stOld:=h.stOld
  stIn:=h.stIn
  obs:=fun l o2 b hl hlive hβ=>by
   rcases hsplit l o2 hl with ⟨h1,h2⟩ | ⟨rfl,rfl⟩
   .have hne:¬ l=s.st.length:=by omega
    simp only[hne,aL] at hβ;obtain⟨q1,q2,cs,g1,g2,g3⟩:=h.obs l o2 b h2 hlive hβ;exact AN9
   .simp only[aO] at hβ;obtain⟨q1,q2,_,_,cs,g1,g2,g3⟩:=hsome b hβ;exact AN9
  nil:=fun l o2 hl hlive hβ=>by exact AMK
  inj:=fun l1 l2 o1 o2 b h1 h2 h3 h4 h5 h6=>by
   rcases hsplit l1 o1 h1 with ⟨p1,p2⟩ | ⟨rfl,rfl⟩<;>rcases hsplit l2 o2 h2 with ⟨q1,q2⟩ | ⟨rfl,rfl⟩
   .exact AMM
   .grind
   .grind
   .rfl
  sep:=fun l o2 b o hl hlive hβ hbo=>by
   rcases hsplit l o2 hl with ⟨h1,h2⟩ | ⟨rfl,rfl⟩
   .exact ANL
   grind
  own:=hown }
theorem Own.addOb {R:Nat->Prop} {st:List Ob} (hN:Own w0 R w St st β) (ob:Ob) (ob':Option Nat) (hfree:∀ x,PX w0 R w St st β x->ob'≠some x) (hno:∀ b,ob'=some b->∀ (k:Nat) (c:Cl),ob.xs.flatten[k]?=some c->HY c=false) {R':Nat->Prop} (hR:∀ x,R' x->R x) :
  Own w0 R' w St (st ++ [ob]) (fun l=>if l=st.length then ob' else β l):=by
 refine hN.move id (fun x hx=>⟨⟨hx.1,fun h=>hx.2.1 (hR x h),hx.2.2.1,hx.2.2.2.1,fun l o2 hl hlv=>?_⟩,rfl⟩) (fun _ _ h=>h) (fun _ _ _=>rfl) (fun l o2 b k c hl hlive hβ hk hc=>?_) (fun _ _ _ _ _ _ _ _ e=>e)
 .by_cases e:l=st.length
  .grind
  .simp only[e,aL]
   have hlt:l<st.length:=by exact AOW
   rw[aY hlt] at hl
   exact hx.2.2.2.2 l o2 hl hlv
 grind
theorem Core.addOb (h:Core w0 St0 St β s a w) (ob:Ob) (ob':Option Nat) (hnone:ob'=none->ob.xs = [])
  (hsome:∀ b,ob'=some b->w0.may b/\b<w.heap.size/\(∀ l o2,s.st[l]?=some o2->o2.live=true->β l≠some b)/\(∀ o,St b o->ob.wr=false/\o<ob.xs.length*ob.sz) /\
   ∃ cs:Array Value,w.heap[b]?=some (.cells cs ob.ty (0,0))/\(∀ x∈ob.xs,x.length=ob.sz)/\∀ (k:Nat) (c:Cl),ob.xs.flatten[k]?=some c->∃ u,cs[k]?=some u/\RdC w St s.st β c u)
  {R:Nat->Prop} (hN:Own w0 R w St s.st β) (hfree:∀ x,PX w0 R w St s.st β x->ob'≠some x) :
  Core w0 St0 St (fun l=>if l=s.st.length then ob' else β l) ⟨s.n,s.env,s.st ++ [ob]⟩ a w /\
   (∀ x u,AVR w St s.st β x u->AVR w St (s.st ++ [ob]) (fun l=>if l=s.st.length then ob' else β l) x u)/\(∀ x u,RdC w St s.st β x u->RdC w St (s.st ++ [ob]) (fun l=>if l=s.st.length then ob' else β l) x u):=by
 refine h.addObB ob ob' hnone (fun b hb=>?_) (hN.addOb ob ob' hfree (fun b hb k c hk=>?_) (fun _ h=>h.elim))
 .obtain⟨q1,q2,q3,q4,cs,g1,g2,g3⟩:=hsome b hb
  refine⟨q1,q2,q3,q4,cs,g1,g2,fun k c hk=>?_⟩
  obtain⟨u,hu,hc⟩:=g3 k c hk
  exact⟨u,hu,hc.toB⟩
 .obtain⟨q1,q2,q3,q4,cs,g1,g2,g3⟩:=hsome b hb
  obtain⟨u,hu,hc⟩:=g3 k c hk
  exact hc.notOw
theorem Own.addO {R:Nat->Prop} {st:List Ob} (hN:Own w0 R w St st β) (ob:Ob) {b:Nat} (hb:R b) (Ψ:Nat->Nat->Prop) (hΨ:∀ k x,Ψ k x->R x/\w0.may x/\x<w.heap.size/\(∀ o,¬ St x o)/\x≠b/\∀ (l:Nat) (o2:Ob),st[l]?=some o2->o2.live=true->β l≠some x)
  (hdis:∀ k k' x,Ψ k x->Ψ k' x->k=k') (hrd:∀ (k:Nat) (c:Cl),ob.xs.flatten[k]?=some c->HY c=true->∃ u,w.cell? ⟨b,k,none⟩=some u/\RdO w St c u (Ψ k)) (hlive:ob.live=true) (R':Nat->Prop) (hR:∀ x,R' x->R x/\∀ k,¬ Ψ k x) :
  Own w0 R' w St (st ++ [ob]) (fun l=>if l=st.length then some b else β l):=by
 obtain⟨φ,h1,h2,h3⟩:=hN
 have hsplit:∀ (l:Nat) (o2:Ob),(st ++ [ob])[l]?=some o2->(l<st.length/\st[l]?=some o2)\/(l=st.length/\o2=ob):=by
  intro l o2 hl;rcases bh l st.length with q1 | q1
  .grind
  .grind
 have hφl:∀ l k x,φ l k x->l<st.length:=fun l k x hx=>by grind
 refine⟨fun l k x=>if l=st.length then Ψ k x else φ l k x, ?_, ?_, ?_⟩
 .intro l o2 b2 k c hl hlv hβ hk hc
  rcases hsplit l o2 hl with ⟨q1,q2⟩ | ⟨rfl,rfl⟩
  .have e:¬ l=st.length:=by omega
   simp_all
  grind
 .intro l k x hx
  by_cases e:l=st.length
  .subst e
   simp only[aO] at hx
   obtain⟨q1,q2,q3,q4,q5,q6⟩:=hΨ k x hx
   refine⟨⟨ob,b,AOm,hlive,AOm⟩,q2,fun h=>(hR x h).2 k hx,q3,q4,fun l o2 hl hlv=>?_⟩
   grind
  .simp only[e,aL] at hx
   obtain⟨⟨o2,b2,p1,p2,p3⟩,q1,q2,q3,q4,q5⟩:=h2 l k x hx
   have hl:=hφl l k x hx
   refine⟨⟨o2,b2,AOo,p2,AOo⟩,q1,fun h=>q2 (hR x h).1,q3,q4,fun l' o3 hl' hlv=>?_⟩
   grind
 .intro l l' k k' x hx hx'
  by_cases e:l=st.length<;>by_cases e':l'=st.length
  .grind
  .simp only[e,e',aO,aL] at hx hx'
   exact absurd (hΨ k x hx).1 (h2 l' k' x hx').2.2.1
  .simp only[e,e',aO,aL] at hx hx'
   exact absurd (hΨ k' x hx').1 (h2 l k x hx).2.2.1
  grind
def H7:List Cl->List Ob
 | []=>[]
 | .ow ty sz xs::r=>⟨ty,sz,xs,true,true⟩::H7 r
 | .v _::r=>H7 r
 | .sl _::r=>H7 r
 | .ref _::r=>H7 r
def Jv (n:Nat):List Cl->List Cl
 | []=>[]
 | .ow _ _ _::r=>.ref n::Jv (n+1) r
 | .v x::r=>.v x::Jv n r
 | .sl xs::r=>.sl xs::Jv n r
 | .ref l::r=>.ref l::Jv n r
def JE (st:List Ob):List Res->List AV×List Ob
 | []=>([],st)
 | .val x::r=>(x::(JE st r).1,(JE st r).2)
 | .own ty sz xs wr::r=>(.c (.ref st.length)::(JE (st ++ [⟨ty,sz,xs,wr,true⟩]) r).1,(JE (st ++ [⟨ty,sz,xs,wr,true⟩]) r).2)
 | .agg cl::r=>(.agg (Jv st.length cl)::(JE (st++H7 cl) r).1,(JE (st++H7 cl) r).2)
def Xe:List Res->List AV
 | []=>[]
 | .val x::r=>x::Xe r
 | .own _ _ xs _::r=>.c (.sl (Qq xs))::Xe r
 | .agg cl::r=>.agg (Kq cl)::Xe r
def retA:List AV->AV
 | [x]=>x
 | xs=>.tup xs
theorem uS (h:Core w0 St0 St β s a w) {R:Nat->Prop} (hN:Own w0 R w St s.st β) {ty:TypeId} {sz:Nat} {xs:List (List Cl)} (wr:Bool) {b cap:Nat} {cs:Array Value} {u:Value} (G:Nat->Nat->Prop) (hu:u = .slice (some ⟨b,0,none⟩) xs.length cap) (h2:xs.length<=cap) (h3:cap<=maxLen)
  (h4:w.heap[b]?=some (.cells cs ty (0,0))) (h5:cs.size=cap*sz) (h6:∀ x∈xs,x.length=sz) (hrd:∀ (k:Nat) (c:Cl),xs.flatten[k]?=some c->∃ y,cs[k]?=some y/\RdO w St c y (G k))
  (hb:R b) (hmay:w0.may b) (hlt:b<w.heap.size) (hfb:∀ l o2,s.st[l]?=some o2->o2.live=true->β l≠some b) (hsep:∀ o,St b o->wr=false/\o<xs.length*sz)
  (hG:∀ k x,G k x->R x/\w0.may x/\x<w.heap.size/\(∀ o,¬ St x o)/\x≠b/\∀ (l:Nat) (o2:Ob),s.st[l]?=some o2->o2.live=true->β l≠some x) (hdis:∀ k k' x,G k x->G k' x->k=k') :
  ∃ β',Core w0 St0 St β' ⟨s.n,s.env,s.st ++ [⟨ty,sz,xs,wr,true⟩]⟩ a w/\Own w0 (fun x=>R x/\∀ k,¬ G k x) w St (s.st ++ [⟨ty,sz,xs,wr,true⟩]) β' /\
   (∀ x u,AVR w St s.st β x u->AVR w St (s.st ++ [⟨ty,sz,xs,wr,true⟩]) β' x u)/\RdC w St (s.st ++ [⟨ty,sz,xs,wr,true⟩]) β' (.ref s.st.length) u/\(∀ l,l<s.st.length->β' l=β l)/\β' s.st.length=some b:=by
 have hown:∀ R',(∀ x,R' x->R x/\∀ k,¬ G k x)->Own w0 R' w St (s.st ++ [⟨ty,sz,xs,wr,true⟩]) (fun l=>if l=s.st.length then some b else β l):=fun R' hR=>hN.addO ⟨ty,sz,xs,wr,true⟩ hb G hG hdis (fun k c hk _=>by
  obtain⟨y,hy,hr⟩:=hrd k c hk;exact⟨y,by simp[World.cell?,h4,hy],hr⟩) rfl R' hR
 obtain⟨a1,a2,a3⟩:=h.addObB ⟨ty,sz,xs,wr,true⟩ (some b) AOm (fun b' hb'=>by
  simp only[ai] at hb';subst hb';refine⟨hmay,hlt,hfb,hsep,cs,h4,h6,fun k c hk=>?_⟩;obtain⟨y,hy,hr⟩:=hrd k c hk;exact⟨y,hy,hr.toB⟩) (hown _ fun _ h=>h.elim)
 refine⟨_,a1,hown _ fun _ h=>h,a2, ?_,fun l hl=>AOo,AOm⟩
 simp only[RdC,BQ]
 rw[aS (aG _)]
 simp only[jv,ab,aO]
 subst hu
 exact⟨by first | trivial | rfl,fun _=>⟨cap,cs,AOo,h2,h3,h4,h5⟩⟩
theorem ADe (h:Core w0 St0 St β s a w) {R:Nat->Prop} (hN:Own w0 R w St s.st β) (ty:TypeId) (sz:Nat) (wr:Bool) :
  ∃ β',Core w0 St0 St β' ⟨s.n,s.env,s.st ++ [⟨ty,sz,[],wr,true⟩]⟩ a w/\Own w0 R w St (s.st ++ [⟨ty,sz,[],wr,true⟩]) β' /\
   (∀ x u,AVR w St s.st β x u->AVR w St (s.st ++ [⟨ty,sz,[],wr,true⟩]) β' x u)/\RdC w St (s.st ++ [⟨ty,sz,[],wr,true⟩]) β' (.ref s.st.length) (.slice none 0 0)/\(∀ l,l<s.st.length->β' l=β l)/\β' s.st.length=none:=by
 obtain⟨a1,a2,a3⟩:=h.addOb ⟨ty,sz,[],wr,true⟩ none (fun _=>rfl) AOm hN AOm
 refine⟨_,a1,hN.addOb _ none AOm AOm (fun _ h=>h),a2, ?_,fun l hl=>AOo,AOm⟩
 simp only[RdC,BQ]
 rw[aS (aG _)]
 simp only[jv,ab,aO]
 simp[Value.oneCell']
theorem Vk:∀ (cl:List Cl) (us:List Value) (Φ:Nat->Nat->Prop) (st:List Ob) (β:Nat->Option Nat) (R:Nat->Prop),Core w0 St0 St β ⟨s.n,s.env,st⟩ a w->Own w0 R w St st β->us.length=cl.length ->
  (∀ (k:Nat) (c:Cl),cl[k]?=some c->∃ y,us[k]?=some y/\RdO w St c y (Φ k))->(∀ k x,Φ k x->R x/\w0.may x/\x<w.heap.size/\(∀ o,¬ St x o)/\∀ (l:Nat) (o2:Ob),st[l]?=some o2->o2.live=true->β l≠some x) ->
  (∀ k k' x,Φ k x->Φ k' x->k=k')->∃ β',Core w0 St0 St β' ⟨s.n,s.env,st++H7 cl⟩ a w/\Own w0 (fun x=>R x/\∀ k,¬ Φ k x) w St (st++H7 cl) β' /\
   (∀ (k:Nat) (c:Cl),(Jv st.length cl)[k]?=some c->∃ y,us[k]?=some y/\RdC w St (st++H7 cl) β' c y)/\(Jv st.length cl).length=cl.length/\(∀ x u,AVR w St st β x u->AVR w St (st++H7 cl) β' x u) /\
   ∀ (l:Nat) (o2:Ob) (b:Nat),(st++H7 cl)[l]?=some o2->o2.live=true->β' l=some b->(st[l]?=some o2/\β l=some b)\/∃ k,Φ k b
 | [],us,Φ,st,β,R,h,hN,hl,hrd,hΦ,hdis=>by
  simp only[H7,bc,Jv]
  exact⟨β,h,hN.move id (fun x hx=>⟨⟨hx.1,fun h=>hx.2.1 h.1,hx.2.2⟩,rfl⟩) (fun _ _ h=>h) (fun _ _ _=>rfl) (fun l ob b k c h1 h2 h3 h4 _=>⟨ob,b,h1,h2,h3,h4,rfl⟩) (fun _ _ _ _ _ _ _ _ e=>e),
   fun k c hk=>APZ,AOo,fun _ _ h=>h,fun l o2 b h1 h2 h3=>.inl ⟨h1,h3⟩⟩
 | c::cl,us,Φ,st,β,R,h,hN,hl,hrd,hΦ,hdis=>by
  cases us with
  | nil=>simp at hl
  | cons u us =>
   have hl':us.length=cl.length:=APf
   have hrd':∀ (k:Nat) (c:Cl),cl[k]?=some c->∃ y,us[k]?=some y/\RdO w St c y ((fun k=>Φ (k+1)) k):=fun k c hk=>by simpa using hrd (k+1) c AOo
   obtain⟨u0,hu0,hr0⟩:=hrd 0 c rfl
   simp only[ab,ai] at hu0
   subst hu0
   have plain:HY c=false->H7 (c::cl)=H7 cl->Jv st.length (c::cl)=c::Jv st.length cl->∃ β',Core w0 St0 St β' ⟨s.n,s.env,st++H7 (c::cl)⟩ a w/\Own w0 (fun x=>R x/\∀ k,¬ Φ k x) w St (st++H7 (c::cl)) β' /\
     (∀ (k:Nat) (c2:Cl),(Jv st.length (c::cl))[k]?=some c2->∃ y,(u::us)[k]?=some y/\RdC w St (st++H7 (c::cl)) β' c2 y)/\(Jv st.length (c::cl)).length=(c::cl).length/\(∀ x u,AVR w St st β x u->AVR w St (st++H7 (c::cl)) β' x u) /\
     ∀ (l:Nat) (o2:Ob) (b:Nat),(st++H7 (c::cl))[l]?=some o2->o2.live=true->β' l=some b->(st[l]?=some o2/\β l=some b)\/∃ k,Φ k b:=by
    intro hc e1 e2
    rw[e1,e2]
    obtain⟨β',q1,q2,q3,q4,q5,q6⟩:=Vk cl us (fun k=>Φ (k+1)) st β R h hN hl' hrd' (fun k x hx=>hΦ (k+1) x hx) (fun k k' x hx hx'=>AOo)
    refine⟨β',q1, ?_,fun k c2 hk=>?_,by simp[q4],q5,fun l o2 b h1 h2 h3=>?_⟩
    .exact q2.move id (fun x hx=>⟨⟨hx.1,fun hh=>hx.2.1 ⟨hh.1,fun k=>hh.2 (k+1)⟩,hx.2.2⟩,rfl⟩) (fun _ _ h=>h) (fun _ _ _=>rfl) (fun l ob b k c h1 h2 h3 h4 _=>⟨ob,b,h1,h2,h3,h4,rfl⟩) (fun _ _ _ _ _ _ _ _ e=>e)
    .grind [ab,ai,RdD.toC,RdO.plain]
    .grind
   cases c with
   | v x=>exact plain rfl rfl rfl
   | sl x=>exact plain rfl rfl rfl
   | ref x=>simp[RdO] at hr0
   | ow ty sz xs =>
    have step:∃ β1,Core w0 St0 St β1 ⟨s.n,s.env,st ++ [⟨ty,sz,xs,true,true⟩]⟩ a w/\Own w0 (fun x=>R x/\¬ Φ 0 x) w St (st ++ [⟨ty,sz,xs,true,true⟩]) β1 /\
      (∀ x u,AVR w St st β x u->AVR w St (st ++ [⟨ty,sz,xs,true,true⟩]) β1 x u)/\RdC w St (st ++ [⟨ty,sz,xs,true,true⟩]) β1 (.ref st.length) u/\(∀ l,l<st.length->β1 l=β l)/\∀ b,β1 st.length=some b->Φ 0 b:=by
     simp only[RdO] at hr0
     rcases hr0 with ⟨rfl,rfl⟩ | ⟨b,cap,cs,G,g1,g2,g3,g4,g5,g6,g7,g8,g9,g10⟩
     .obtain⟨β1,q1,q2,q3,q4,q5,q6⟩:=ADe h hN ty sz true
      exact⟨β1,q1,q2.move id (fun x hx=>⟨⟨hx.1,fun hh=>hx.2.1 hh.1,hx.2.2⟩,rfl⟩) (fun _ _ h=>h) (fun _ _ _=>rfl) (fun l ob b k c h1 h2 h3 h4 _=>⟨ob,b,h1,h2,h3,h4,rfl⟩) (fun _ _ _ _ _ _ _ _ e=>e),q3,q4,q5,fun b hb=>AOo⟩
     .obtain⟨p1,p2,p3,p4,p5⟩:=hΦ 0 b g7
      obtain⟨β1,q1,q2,q3,q4,q5,q6⟩:=uS h hN true G g1 g2 g3 g4 g5 g6 (fun k c hk=>by simpa using g10.at hk) p1 p2 p3 p5 (fun o ho=>absurd ho (p4 o)) (fun k x hx=>by
       grind) g9
      refine⟨β1,q1, ?_,q3,q4,q5,fun b' hb'=>AOo⟩
      exact q2.move id (fun x hx=>⟨⟨hx.1,fun hh=>hx.2.1 ⟨hh.1,fun k hk=>hh.2 (g8 k x hk).1⟩,hx.2.2⟩,rfl⟩) (fun _ _ h=>h) (fun _ _ _=>rfl) (fun l ob b k c h1 h2 h3 h4 _=>⟨ob,b,h1,h2,h3,h4,rfl⟩) (fun _ _ _ _ _ _ _ _ e=>e)
    obtain⟨β1,q1,q2,q3,q4,q5,q6⟩:=step
    obtain⟨β',r1,r2,r3,r4,r5,r6⟩:=Vk cl us (fun k=>Φ (k+1)) (st ++ [⟨ty,sz,xs,true,true⟩]) β1 _ q1 q2 hl' hrd' (fun k x hx=>by
     grind) (fun k k' x hx hx'=>AOo)
    have ea:st ++ [⟨ty,sz,xs,true,true⟩]++H7 cl=st++H7 (.ow ty sz xs::cl):=by simp[H7]
    have eb:Jv st.length (.ow ty sz xs::cl) = .ref st.length::Jv (st ++ [(⟨ty,sz,xs,true,true⟩:Ob)]).length cl:=by simp[Jv]
    rw[ea] at r1 r2 r3 r5 r6
    rw[eb]
    refine⟨β',r1, ?_,fun k c2 hk=>?_,AOo,fun x u hx=>r5 x u (q3 x u hx),fun l o2 b h1 h2 h3=>?_⟩
    .exact r2.move id (fun x hx=>⟨⟨hx.1,fun hh=>hx.2.1 ⟨⟨hh.1,hh.2 0⟩,fun k=>hh.2 (k+1)⟩,hx.2.2⟩,rfl⟩) (fun _ _ h=>h) (fun _ _ _=>rfl) (fun l ob b k c h1 h2 h3 h4 _=>⟨ob,b,h1,h2,h3,h4,rfl⟩) (fun _ _ _ _ _ _ _ _ e=>e)
    .cases k with
     | zero =>
      simp only[ab,ai] at hk
      subst hk
      refine⟨u,rfl, ?_⟩
      have:=r5 (.c (.ref st.length)) u (by simpa only[AVR] using q4)
      simpa only[AVR] using this
     | succ k=>grind
    grind
theorem ZZ (B:Nat):∀ (rs:List Res) (us:List Value) (bs:List (Option Nat)) (Φs:List (Nat->Nat->Prop)) (st:List Ob) (β:Nat->Option Nat) (R:Nat->Prop),Core w0 St0 St β ⟨s.n,s.env,st⟩ a w->w0.heap.size<=B->Own w0 R w St st β->ResR w St B rs us bs Φs->FpOk w St B bs Φs ->
  (∀ (i b:Nat),bs[i]?=some (some b)->R b/\∀ l o2,st[l]?=some o2->o2.live=true->β l≠some b)->(∀ (i:Nat) (Φ:Nat->Nat->Prop) (k x:Nat),Φs[i]?=some Φ->Φ k x->R x/\∀ l o2,st[l]?=some o2->o2.live=true->β l≠some x) ->
  ∃ β',Core w0 St0 St β' ⟨s.n,s.env,(JE st rs).2⟩ a w/\AVRs w St (JE st rs).2 β' (JE st rs).1 us/\(∀ x u,AVR w St st β x u->AVR w St (JE st rs).2 β' x u)
 | [],us,bs,Φs,st,β,R,h,_,_,hr,_,_,_=>by obtain⟨rfl,rfl,rfl⟩:=hr;exact⟨β,h,by simp[JE,AVRs],fun _ _ h=>h⟩
 | r::rs,us,bs,Φs,st,β,R,h,hB,hN,hr,hf,hbs,hΦs=>by
  obtain⟨u,us',b,bs',Φ,Φs',rfl,rfl,rfl,h1,h2⟩:=hr;have hbs':∀ (i b:Nat),bs'[i]?=some (some b)->R b/\∀ l o2,st[l]?=some o2->o2.live=true->β l≠some b:=fun i b hi=>hbs (i+1) b AOo;have hΦs':∀ (i:Nat) (Ψ:Nat->Nat->Prop) (k x:Nat),Φs'[i]?=some Ψ->Ψ k x->R x/\∀ l o2,st[l]?=some o2->o2.live=true->β l≠some x:=fun i Ψ k x hi=>hΦs (i+1) Ψ k x AOo
  have hsplit1:∀ (ob:Ob) (l:Nat) (o2:Ob),(st ++ [ob])[l]?=some o2->(l<st.length/\st[l]?=some o2)\/l=st.length:=by
   intro ob l o2 hl;rcases bh l st.length with q1 | q1
   .grind
   .grind
  cases r with
  | val x =>
   obtain⟨h1,_⟩:=h1
   obtain⟨β',q1,q2,q3⟩:=ZZ B rs us' bs' Φs' st β R h hB hN h2 hf.tail hbs' hΦs'
   refine⟨β',q1, ?_,q3⟩
   simp only[JE,AVRs]
   exact⟨u,us',rfl,q3 _ _ h1.toAVR,q2⟩
  | own ty sz xs wr =>
   have step:∃ β1,Core w0 St0 St β1 ⟨s.n,s.env,st ++ [⟨ty,sz,xs,wr,true⟩]⟩ a w/\Own w0 (fun x=>R x/\(∀ k,¬ Φ k x)/\b≠some x) w St (st ++ [⟨ty,sz,xs,wr,true⟩]) β1 /\
     (∀ x u,AVR w St st β x u->AVR w St (st ++ [⟨ty,sz,xs,wr,true⟩]) β1 x u)/\RdC w St (st ++ [⟨ty,sz,xs,wr,true⟩]) β1 (.ref st.length) u/\(∀ l,l<st.length->β1 l=β l)/\β1 st.length=b:=by
    cases b with
    | none =>
     obtain⟨rfl,rfl⟩:=h1
     obtain⟨β1,q1,q2,q3,q4,q5,q6⟩:=ADe h hN ty sz wr
     exact⟨β1,q1,q2.move id (fun x hx=>⟨⟨hx.1,fun hh=>hx.2.1 hh.1,hx.2.2⟩,rfl⟩) (fun _ _ h=>h) (fun _ _ _=>rfl) (fun l ob b k c h1 h2 h3 h4 _=>⟨ob,b,h1,h2,h3,h4,rfl⟩) (fun _ _ _ _ _ _ _ _ e=>e),q3,q4,q5,q6⟩
    | some b =>
     obtain⟨g1,g2,g3,g4,cap,cs,e1,e2,e3,e4,e5,e6⟩:=h1
     obtain⟨p1,p2⟩:=hbs 0 b rfl
     obtain⟨β1,q1,q2,q3,q4,q5,q6⟩:=uS h hN wr Φ e1 e2 e3 e4 e5 g3 e6 p1 (.inl AOl) g2 p2 g4 (fun k x hx=>by
      obtain⟨r1,r2,r3,r4⟩:=hf.fresh 0 Φ k x rfl hx;obtain⟨t1,t2⟩:=hΦs 0 Φ k x rfl hx;exact⟨t1,.inl AOl,r2,r3,fun e=>r4 0 (by simp[e]),t2⟩) (fun k k' x hx hx'=>(hf.dis 0 0 Φ Φ k k' x rfl rfl hx hx').2)
     refine⟨β1,q1, ?_,q3,q4,q5,q6⟩
     exact q2.move id (fun x hx=>⟨⟨hx.1,fun hh=>hx.2.1 ⟨hh.1,hh.2.1⟩,hx.2.2⟩,rfl⟩) (fun _ _ h=>h) (fun _ _ _=>rfl) (fun l ob b k c h1 h2 h3 h4 _=>⟨ob,b,h1,h2,h3,h4,rfl⟩) (fun _ _ _ _ _ _ _ _ e=>e)
   obtain⟨β1,q1,q2,q3,q4,q5,q6⟩:=step
   obtain⟨β',r1,r2,r3⟩:=ZZ B rs us' bs' Φs' (st ++ [⟨ty,sz,xs,wr,true⟩]) β1 _ q1 hB q2 h2 hf.tail (fun i b2 hi=>by
    obtain⟨p1,p2⟩:=hbs' i b2 hi;refine⟨⟨p1,fun k hk=>(hf.fresh 0 Φ k b2 rfl hk).2.2.2 (i+1) AOo,fun e=>by subst e; have:=hf.nodup 0 (i+1) b2 rfl AOo; omega⟩,fun l o2 hl hlv=>?_⟩;rcases hsplit1 _ l o2 hl with ⟨h',h''⟩ | rfl
    .grind
    .rw[q6]; intro e; subst e; have:=hf.nodup 0 (i+1) b2 rfl AOo; omega) (fun i Ψ k x hi hx=>by
    obtain⟨p1,p2⟩:=hΦs' i Ψ k x hi hx;have hxb:b≠some x:=fun e=>(hf.fresh (i+1) Ψ k x AOo hx).2.2.2 0 (by simp[e]);refine⟨⟨p1,fun k' hk'=>by have:=(hf.dis 0 (i+1) Φ Ψ k' k x rfl AOo hk' hx).1; omega,hxb⟩,fun l o2 hl hlv=>?_⟩;grind)
   refine⟨β',r1, ?_,fun x u hx=>r3 x u (q3 x u hx)⟩
   simp only[JE,AVRs]
   exact⟨u,us',rfl,r3 (.c (.ref st.length)) u (by simpa only[AVR] using q4),r2⟩
  | agg cl =>
   obtain⟨rfl,us2,rfl,hl2,hrd⟩:=h1
   obtain⟨β1,q1,q2,q3,q4,q5,q6⟩:=Vk cl us2 Φ st β R h hN hl2 hrd (fun k x hx=>by
    obtain⟨r1,r2,r3,r4⟩:=hf.fresh 0 Φ k x rfl hx;obtain⟨t1,t2⟩:=hΦs 0 Φ k x rfl hx;exact⟨t1,.inl AOl,r2,r3,t2⟩) (fun k k' x hx hx'=>(hf.dis 0 0 Φ Φ k k' x rfl rfl hx hx').2)
   obtain⟨β',r1,r2,r3⟩:=ZZ B rs us' bs' Φs' (st++H7 cl) β1 _ q1 hB q2 h2 hf.tail (fun i b2 hi=>by
    obtain⟨p1,p2⟩:=hbs' i b2 hi;have hno:∀ k,¬ Φ k b2:=fun k hk=>(hf.fresh 0 Φ k b2 rfl hk).2.2.2 (i+1) AOo;grind) (fun i Ψ k x hi hx=>by
    obtain⟨p1,p2⟩:=hΦs' i Ψ k x hi hx;have hno:∀ k',¬ Φ k' x:=fun k' hk'=>by have:=(hf.dis 0 (i+1) Φ Ψ k' k x rfl AOo hk' hx).1; omega
    grind)
   refine⟨β',r1, ?_,fun x u hx=>r3 x u (q5 x u hx)⟩
   simp only[JE,AVRs]
   refine⟨_,us',rfl,r3 _ _ ?_,r2⟩
   simp only[AVR]
   grind
theorem Lj {st:List Ob}:∀ {xs:List AV} {us:List Value},AVRs w St st β xs us->AVR w St st β (retA xs) (Xd us)
 | [],us,h=>by simp only[AVRs] at h; subst h; simp only[retA,Xd,AVR]; exact⟨[],rfl,by simp[AVRs]⟩
 | [x],us,h=>by simp only[AVRs] at h;obtain⟨y,ys,rfl,h1,rfl⟩:=h;exact h1
 | x::x2::xs,us,h=>by have h':=h;simp only[AVRs] at h;obtain⟨y,ys,rfl,h1,y2,ys2,rfl,h2,h3⟩:=h;simp only[retA,Xd,AVR];grind
theorem oM {w':World} {St':Nat->Nat->Prop} {B:Nat} (rs:List Res):∀ {us:List Value} {bs:List (Option Nat)} {Φs:List (Nat->Nat->Prop)},ResR w' St' B (rs.map oK) us bs Φs->RdAs w' St' (Xe rs) us:=by
 induction rs with
 | nil=>intro us bs Φs h; obtain⟨rfl,_,_⟩:=h; rfl
 | cons r rs ih =>
  intro us bs Φs h
  rw[ao] at h
  obtain⟨u,us',b,bs',Φ,Φs',rfl,rfl,rfl,h1,h2⟩:=h
  have h3:=ih h2
  cases r with
  | val x =>
   have h4:RdA w' St' x u:=h1.1
   exact⟨u,us',rfl,h4,h3⟩
  | own ty sz xs wr =>
   have h4:RdA w' St' (.c (.sl (Qq xs))) u:=h1.1
   exact⟨u,us',rfl,h4,h3⟩
  | agg cl =>
   have h4:RdA w' St' (.agg (Kq cl)) u:=h1.1
   exact⟨u,us',rfl,h4,h3⟩
def Ij:Cl->Bool
 | .ref _=>false
 | _=>true
def DR (xs:List (List Cl)):Bool:=xs.all fun x=>x.all Ij
def Fp (st:List Ob) (β:Nat->Option Nat) (φ:Nat->Nat->Nat->Prop) (l x:Nat):Prop:=∃ ob,st[l]?=some ob/\ob.live=true/\(β l=some x\/∃ k,φ l k x)
section owns
variable {φ:Nat->Nat->Nat->Prop}
def Vl (w0:Bs) (w:World) (St:Nat->Nat->Prop) (st:List Ob) (β:Nat->Option Nat) (φ:Nat->Nat->Nat->Prop):Prop:=
 (∀ (l:Nat) (ob:Ob) (b k:Nat) (c:Cl),st[l]?=some ob->ob.live=true->β l=some b->ob.xs.flatten[k]?=some c->HY c=true->∃ u,w.cell? ⟨b,k,none⟩=some u/\RdO w St c u (φ l k)) /\
 (∀ l k x,φ l k x->(∃ ob b,st[l]?=some ob/\ob.live=true/\β l=some b)/\PX w0 (fun _=>False) w St st β x) /\
 ∀ l l' k k' x,φ l k x->φ l' k' x->l=l'/\k=k'
theorem Ji (h:Core w0 St0 St β s a w) (hφ:Vl w0 w St s.st β φ) {l l' x:Nat} (h1:Fp s.st β φ l x) (h2:Fp s.st β φ l' x):l=l':=by
 obtain⟨ob,p1,p2,p3⟩:=h1;obtain⟨ob',q1,q2,q3⟩:=h2;rcases p3 with p3 | ⟨k,p3⟩<;>rcases q3 with q3 | ⟨k',q3⟩
 .exact h.inj l l' ob ob' x p1 q1 p2 q2 p3 q3
 .exact absurd p3 ((hφ.2.1 l' k' x q3).2.2.2.2.2 l ob p1 p2)
 .exact absurd q3 ((hφ.2.1 l k x p3).2.2.2.2.2 l' ob' q1 q2)
 .exact(hφ.2.2 l l' k k' x p3 q3).1
theorem Vo (h:Core w0 St0 St β s a w) (hφ:Vl w0 w St s.st β φ) {l x:Nat} (h1:Fp s.st β φ l x) (hwr:∀ ob,s.st[l]?=some ob->ob.wr=true):w0.may x/\x<w.heap.size/\∀ o,¬ St x o:=by
 obtain⟨ob,p1,p2,p3⟩:=h1;rcases p3 with p3 | ⟨k,p3⟩
 .obtain⟨q1,q2,_⟩:=h.obs l ob x p1 p2 p3;refine⟨q1,q2,fun o ho=>?_⟩;have:=(h.sep l ob x o p1 p2 p3 ho).1;grind
 .obtain⟨q1,_,q3,q4,_⟩:=(hφ.2.1 l k x p3).2;grind
theorem dK (h:Core w0 St0 St β s a w) (hφ:Vl w0 w St s.st β φ) {l b:Nat} {ob:Ob} (hl:s.st[l]?=some ob) (hlive:ob.live=true) (hβ:β l=some b) (hnr:DR ob.xs=true) {cs:Array Value} (hcs:w.heap[b]?=some (.cells cs ob.ty (0,0))) :
  ∀ (k:Nat) (c:Cl),ob.xs.flatten[k]?=some c->∃ y,cs[k]?=some y/\RdO w St c y (φ l k):=by
 intro k c hk
 obtain⟨_,_,cs',g1,g2,g3⟩:=h.obs l ob b hl hlive hβ
 rw[hcs] at g1
 simp only[ai,Obj.cells.injEq,yH] at g1
 subst g1
 obtain⟨y,hy,hr⟩:=g3 k c hk
 cases ho:HY c with
 | true =>
  obtain⟨u,hu,hro⟩:=hφ.1 l ob b k c hl hlive hβ hk ho
  simp only[World.cell?,hcs,Option.isSome_none,ax,aL] at hu
  grind
 | false =>
  refine⟨y,hy,(RdO.plain ho).2 ?_⟩
  have hrc:=hr.toC ho
  obtain⟨x,hx,hcx⟩:=aa0.1 (aT hk)
  have hn:=aC.1 (aC.1 hnr x hx) c hcx
  cases c with
  | ref l=>simp[Ij] at hn
  | v x=>exact hrc
  | sl x=>exact hrc
  | ow ty sz x=>simp[HY] at ho
end owns
theorem yN (h:Core w0 St0 St β s a w) {φ:Nat->Nat->Nat->Prop} (hφ:Vl w0 w St s.st β φ) {l:Nat} {ob:Ob} (hob:DF s.st l=some ob) (hnr:DR ob.xs=true) {u:Value} (hu:BQ w s.st β l u):RdO w St (.ow ob.ty ob.sz ob.xs) u (Fp s.st β φ l):=by
 obtain⟨hl,hlive⟩:=Bo hob;simp only[BQ,hl] at hu;have hx2:=hu.2 hlive;simp only[RdO];cases hβ:β l with
 | none=>grind
 | some b =>
  simp only[hβ] at hx2
  obtain⟨cap,cs,e1,e2,e3,e4,e5⟩:=hx2
  obtain⟨_,_,_,_,g2,_⟩:=h.obs l ob b hl hlive hβ
  refine .inr ⟨b,cap,cs,φ l,e1,e2,e3,e4,e5,g2,⟨ob,hl,hlive,.inl hβ⟩,fun k x hk=>⟨⟨ob,hl,hlive,.inr ⟨k,hk⟩⟩,fun e=>?_⟩,fun k k' x hk hk'=>(hφ.2.2 l l k k' x hk hk').2,RdOE.mk fun k c hk=>?_⟩
  .exact(hφ.2.1 l k x hk).2.2.2.2.2 l ob hl hlive (by rw[hβ,e])
  grind [dK]
def isV:AV->Bool
 | .c (.v (.slice _ _ _))=>false
 | .c (.v _)=>true
 | _=>false
def ABp:AV->Bool
 | .clo _ _=>true
 | x=>isV x
theorem ADf {x:AV} {u:Value} (hx:isV x=true) (h:AVR w St s.st β x u):RdA w St x u:=by
 cases x with
 | c c =>
  cases c with
  | v v=>simp only[AVR] at h; exact h
  | _=>simp[isV] at hx
 | _=>simp[isV] at hx
theorem AAX:∀ {xs:List AV} {us:List Value},xs.all isV=true->AVRs w St s.st β xs us->RdAs w St xs us
 | [],us,_,h=>by simp only[AVRs] at h; exact h
 | x::xs,us,hx,h=>by simp only[aI,ar] at hx;simp only[AVRs] at h;obtain⟨y,ys,h1,h2,h3⟩:=h;exact⟨y,ys,h1,ADf hx.1 h2,AAX hx.2 h3⟩
theorem AFM {x:AV} {u:Value} (hx:ABp x=true) (h:AVR w St s.st β x u):RdA w St x u:=by
 cases x with
 | clo f xs=>simp only[AVR] at h; exact h
 | c c=>exact ADf (by simpa [ABp] using hx) h
 | _=>simp[ABp,isV] at hx
theorem uT:∀ {xs:List AV} {us:List Value},xs.all ABp=true->AVRs w St s.st β xs us->RdAs w St xs us
 | [],us,_,h=>by simp only[AVRs] at h; exact h
 | x::xs,us,hx,h=>by simp only[aI,ar] at hx;simp only[AVRs] at h;obtain⟨y,ys,h1,h2,h3⟩:=h;exact⟨y,ys,h1,AFM hx.1 h2,uT hx.2 h3⟩
mutual
def KY:Cl->Bool
 | .v _=>true
 | .sl _=>false
 | .ref _=>false
 | .ow _ _ xs=>Jo xs
def Jo:List (List Cl)->Bool
 | []=>true
 | x::xs=>GN x&&Jo xs
def GN:List Cl->Bool
 | []=>true
 | c::cs=>KY c&&GN cs
end
mutual
theorem RdO.clo {w:World} {St St':Nat->Nat->Prop}:∀ (c:Cl) (u:Value) (F:Nat->Prop),KY c=true->RdO w St c u F->RdO w St' c u F
 | .v x,u,F,_,h=>by simp only[RdO] at h ⊢; exact h
 | .ref _,_,_,hc,_=>by simp[KY] at hc
 | .sl _,_,_,hc,_=>by simp[KY] at hc
 | .ow ty sz xs,u,F,hc,h=>by
  simp only[RdO] at h ⊢;simp only[KY] at hc;rcases h with h | ⟨b,cap,cs,G,h1,h2,h3,h4,h5,h6,h7,h8,h9,h10⟩
  .exact .inl h
  .exact .inr ⟨b,cap,cs,G,h1,h2,h3,h4,h5,h6,h7,h8,h9,RdOE.clo xs 0 cs G hc h10⟩
theorem RdOE.clo {w:World} {St St':Nat->Nat->Prop}:∀ (xs:List (List Cl)) (n:Nat) (cs:Array Value) (G:Nat->Nat->Prop),Jo xs=true->RdOE w St xs n cs G->RdOE w St' xs n cs G
 | [],_,_,_,_,_=>by simp[RdOE]
 | x::xs,n,cs,G,hc,h=>by simp only[RdOE] at h ⊢;simp only[Jo,ar] at hc;exact⟨RdOL.clo x n cs G hc.1 h.1,RdOE.clo xs _ cs G hc.2 h.2⟩
theorem RdOL.clo {w:World} {St St':Nat->Nat->Prop}:∀ (cl:List Cl) (n:Nat) (cs:Array Value) (G:Nat->Nat->Prop),GN cl=true->RdOL w St cl n cs G->RdOL w St' cl n cs G
 | [],_,_,_,_,_=>by simp[RdOL]
 | c::cl,n,cs,G,hc,h=>by simp only[RdOL] at h ⊢;simp only[GN,ar] at hc;obtain⟨⟨y,h1,h2⟩,h3⟩:=h;exact⟨⟨y,h1,RdO.clo c y (G n) hc.1 h2⟩,RdOL.clo cl _ cs G hc.2 h3⟩
end
theorem Rh:∀ {cs:List Cl},GN cs=true->∀ c∈cs,KY c=true
 | [],_,c,h=>APN
 | d::cs,hc,c,h=>by
  simp only[GN,ar] at hc;rcases TM.1 h with rfl | h
  .exact hc.1
  .exact Rh hc.2 c h
theorem Vp:∀ {xs:List (List Cl)},Jo xs=true->∀ x∈xs,GN x=true
 | [],_,c,h=>APN
 | d::cs,hc,c,h=>by
  simp only[Jo,ar] at hc;rcases TM.1 h with rfl | h
  .exact hc.1
  .exact Vp hc.2 c h
theorem Za:∀ {xs:List (List Cl)},(∀ x∈xs,GN x=true)->Jo xs=true
 | [],_=>rfl
 | d::cs,h=>by simp only[Jo,ar];exact⟨h d AOm,Za fun x hx=>h x AP3⟩
theorem AFN {c:Cl} (h:KY c=true):Ij c=true:=by cases c<;>simp_all [KY,Ij]
theorem AFO {cs:List Cl} (h:GN cs=true):cs.all Ij=true:=aC.2 fun c hc=>AFN (Rh h c hc)
def ADg:Cl->Bool
 | .v _=>true
 | .sl []=>true
 | _=>false
def EH:Res->Bool
 | .val (.c (.v _))=>true
 | .val (.agg cs)=>cs.all ADg
 | .val _=>false
 | .own _ _ xs _=>Jo xs
 | .agg cl=>GN cl
theorem Res1.clo {w':World} {St2 St:Nat->Nat->Prop} {B:Nat} {r:Res} {u:Value} {b:Option Nat} {Φ:Nat->Nat->Prop} (hc:EH r=true) (hB:∀ b o,St b o->b<B) (h:Res1 w' St2 B r u b Φ):Res1 w' St B r u b Φ:=by
 cases r with
 | val x =>
  obtain⟨h1,h2⟩:=h
  refine⟨?_,h2⟩
  cases x with
  | c c =>
   cases c with
   | v x=>exact h1
   | _=>simp[EH] at hc
  | agg cs =>
   obtain⟨us,e1,e2,e3⟩:=h1
   refine⟨us,e1,e2,fun k c hk=>?_⟩
   obtain⟨y,hy,hr⟩:=e3 k c hk
   refine⟨y,hy, ?_⟩
   have hv:=aC.1 hc c (aT hk)
   cases c with
   | v x=>simp only[RdD] at hr ⊢; exact hr
   | sl xs =>
    cases xs with
    | nil =>
     simp only[RdC,RdD] at hr ⊢
     simp_all
    | cons _ _=>simp[ADg] at hv
   | _=>simp[ADg] at hv
  | _=>simp[EH] at hc
 | own ty sz xs wr =>
  cases b with
  | none=>exact h
  | some b =>
   obtain⟨g1,g2,g3,g4,cap,cs,e1,e2,e3,e4,e5,e6⟩:=h
   refine⟨g1,g2,g3,fun o ho=>?_,cap,cs,e1,e2,e3,e4,e5,fun k c hk=>?_⟩
   .grind
   .obtain⟨y,hy,hr⟩:=e6 k c hk
    obtain⟨x,hx,hcx⟩:=aa0.1 (aT hk)
    exact⟨y,hy,RdO.clo c y _ (Rh (Vp hc x hx) c hcx) hr⟩
 | agg cl =>
  obtain⟨h1,us,e1,e2,e3⟩:=h
  refine⟨h1,us,e1,e2,fun k c hk=>?_⟩
  obtain⟨y,hy,hr⟩:=e3 k c hk
  exact⟨y,hy,RdO.clo c y _ (Rh hc c (aT hk)) hr⟩
theorem ResR.clo {w':World} {St2 St:Nat->Nat->Prop} {B:Nat} (hB:∀ b o,St b o->b<B):∀ {rs:List Res} {us:List Value} {bs:List (Option Nat)} {Φs:List (Nat->Nat->Prop)},rs.all EH=true->ResR w' St2 B rs us bs Φs->ResR w' St B rs us bs Φs
 | [],us,bs,Φs,_,h=>h
 | r::rs,us,bs,Φs,hc,h=>by simp only[aI,ar] at hc;obtain⟨u,us',b,bs',Φ,Φs',e1,e2,e3,h1,h2⟩:=h;exact⟨u,us',b,bs',Φ,Φs',e1,e2,e3,h1.clo hc.1 hB,ResR.clo hB hc.2 h2⟩
theorem Back.clo {St1 St2:Nat->Nat->Prop} {rs:List Res} {e:Ending} {w':World} {us:List Value} {bs:List (Option Nat)} (hb:Back w St1 rs e w' us bs St2) (hc:rs.all EH=true) (hin:∀ b o,St b o->b<w.heap.size):Back w St rs e w' us bs St:=by
 obtain⟨Φs,hr,hf⟩:=hb.res
 exact⟨hb.ret,hb.below,fun _ _ h=>h,fun _ _ h _=>h,fun b o h=>bm (hin b o h) hb.below.size,Φs,hr.clo hin hc,hf.nodup,fun i Φ k x hi hx=>by
  obtain⟨q1,q2,q3,q4⟩:=hf.fresh i Φ k x hi hx;grind,hf.dis⟩
def Xf (st:List Ob):Cl->Option Cl
 | .ref l=>match DF st l with
  | some ob=>if DR ob.xs then some (.sl (Qq ob.xs)) else none
  | none=>none
 | .v x=>fzC st (.v x)
 | .sl xs=>some (.sl xs)
 | .ow _ _ _=>none
def ABq (st:List Ob):List Cl->Option (List Cl)
 | []=>some []
 | c::cs=>match Xf st c,ABq st cs with
  | some d,some ds=>some (d::ds)
  | _,_=>none
def AFP (st:List Ob):AV->Option AV
 | .c x=>match Xf st x with
  | some d=>some (.c d)
  | none=>none
 | .agg xs=>match ABq st xs with
  | some ys=>some (.agg ys)
  | none=>none
 | .vw (.c (.ref l)) i n m=>match Xf st (.ref l) with
  | some (.sl xs)=>if i+m<=xs.length/\xs.all (fun r=>r.length==n)=true then some (.c (.sl ((xs.drop i).take m))) else none
  | _=>none
 | _=>none
def UH (st:List Ob):List AV->Option (List AV)
 | []=>some []
 | x::xs=>match AFP st x,UH st xs with
  | some y,some ys=>some (y::ys)
  | _,_=>none
def AllSt (w:World) (St:Nat->Nat->Prop) (st:List Ob) (β:Nat->Option Nat) (φ:Nat->Nat->Nat->Prop) (b o:Nat):Prop:=St b o\/∃ l,Fp st β φ l b
theorem AllSt.lt {φ:Nat->Nat->Nat->Prop} (h:Core w0 St0 St β s a w) (hφ:Vl w0 w St s.st β φ) {b o:Nat} (hb:AllSt w St s.st β φ b o):b<w.heap.size:=by
 rcases hb with hb | ⟨l,ob,p1,p2,p3⟩
 .exact h.stIn b o hb
 .rcases p3 with p3 | ⟨k,p3⟩
  .exact(h.obs l ob b p1 p2 p3).2.1
  .exact(hφ.2.1 l k b p3).2.2.2.1
section
variable {φ:Nat->Nat->Nat->Prop}
theorem Zb (h:Core w0 St0 St β s a w) (hφ:Vl w0 w St s.st β φ) {c d:Cl} (hc:Xf s.st c=some d) {u:Value} (hu:RdC w St s.st β c u):RdD w (AllSt w St s.st β φ) d u:=by
 cases c with
 | ow ty sz xs=>simp[Xf] at hc
 | sl xs =>
  simp only[Xf,ai] at hc
  subst hc
  exact RdD.mono (fun _ _ h=>.inl h) (fun _ _ _=>rfl) _ _ hu
 | v x =>
  simp only[Xf] at hc
  obtain⟨St',q1,q2,q3,q4⟩:=oG h hc
  have hr:=q4 u (RdC.toB hu)
  unfold fzC at hc
  split at hc
  .simp only[ai] at hc
   subst hc
   simp only[RdD] at hr ⊢
   simp_all
  .cases hc
  .rename_i y _ _ he
   simp only[ai] at hc
   subst hc
   cases he
   simp only[RdD] at hr ⊢
   exact hr
  .grind
  .grind
  grind
 | ref l =>
  simp only[Xf] at hc
  split at hc
  .rename_i ob hob
   split at hc
   .rename_i hnr
    simp only[ai] at hc
    subst hc
    have hr:=yN h hφ hob hnr (by simpa only[RdC] using hu)
    have:=RdO.frz _ _ _ hr
    simp only[er] at this
    exact RdD.mono (fun b o hbo=>by
     rcases hbo with hbo | hbo
     .exact .inl hbo
     .exact .inr ⟨l,hbo⟩) (fun _ _ _=>rfl) _ _ this
   .cases hc
  .cases hc
theorem AAY {st:List Ob}:∀ {cs ds:List Cl},ABq st cs=some ds->ds.length=cs.length/\∀ (k:Nat) (d:Cl),ds[k]?=some d->∃ c,cs[k]?=some c/\Xf st c=some d
 | [],ds,h=>by simp only[ABq,ai] at h;subst h;exact⟨rfl,fun k d hk=>APZ⟩
 | c::cs,ds,h=>by
  simp only[ABq] at h;split at h
  .rename_i d ds' h1 h2;simp only[ai] at h;subst h;obtain⟨q1,q2⟩:=AAY h2;refine⟨by simp[q1],fun k e hk=>?_⟩;cases k with
   | zero=>simp only[ab,ai] at hk; subst hk; exact⟨c,rfl,h1⟩
   | succ k=>simpa using q2 k e APQ
  .cases h
theorem AFQ (h:Core w0 St0 St β s a w) (hφ:Vl w0 w St s.st β φ) {x y:AV} (hx:AFP s.st x=some y) {u:Value} (hu:AVR w St s.st β x u):RdA w (AllSt w St s.st β φ) y u:=by
 unfold AFP at hx;split at hx
 .split at hx
  .rename_i d hd;simp only[ai] at hx;subst hx;simp only[AVR] at hu;exact Zb h hφ hd hu
  .cases hx
 .split at hx
  .rename_i ys hys;simp only[ai] at hx;subst hx;simp only[AVR] at hu;obtain⟨us,e1,e2,e3⟩:=hu;obtain⟨q1,q2⟩:=AAY hys;refine⟨us,e1,by rw[q1,e2],fun k d hk=>?_⟩;grind [Zb]
  .cases hx
 .rename_i l i n m;split at hx
  .rename_i xs hxs;split at hx
   .rename_i hcond;obtain⟨c1,c2⟩:=hcond;simp only[ai] at hx;subst hx;simp only[AVR] at hu;obtain⟨b,len,cap,cap',rfl,h2,h3,h4⟩:=hu;have hd:=Zb h hφ hxs h4;have hall:∀ z∈xs,z.length=n:=fun z hz=>AOo;have hlen:((xs.drop i).take m).length=m:=AOn;simp only[RdD] at hd;obtain⟨ad,cp,e1,e2,e3,e4,e5⟩:=hd;simp only[RdA,RdD];refine⟨_,cap',by rw[hlen],AOl,h3,⟨n,fun z hz=>hall z (yE (uF hz))⟩, ?_⟩;rcases e5 with rfl | ⟨b2,off,rfl,e6⟩
    .left; simp
    .simp only[Value.slice.injEq,ai,Addr.mk.injEq,yH] at e1;obtain⟨⟨rfl,rfl⟩,_⟩:=e1;right;refine⟨_,_,rfl,ADP n (fun z hz=>hall z (yE (uF hz))) fun k z hi=>?_⟩;rw[aaC] at hi;split at hi
     .rw[aaV] at hi;have:=e6.at n hall (i+k) z hi;rwa [show 0+(i+k)*n=i*n+k*n by rw[dE]; omega] at this
     .cases hi
   .cases hx
  .cases hx
 .cases hx
theorem dL (h:Core w0 St0 St β s a w) (hφ:Vl w0 w St s.st β φ):∀ {xs ys:List AV},UH s.st xs=some ys->∀ {us:List Value},AVRs w St s.st β xs us->RdAs w (AllSt w St s.st β φ) ys us
 | [],ys,hx,us,hu=>by simp only[UH,ai] at hx;subst hx;simp only[AVRs] at hu;exact hu
 | x::xs,ys,hx,us,hu=>by
  simp only[UH] at hx;split at hx
  .rename_i y ys' h1 h2;simp only[ai] at hx;subst hx;simp only[AVRs] at hu;obtain⟨v,vs,e,g1,g2⟩:=hu;exact⟨v,vs,e,AFQ h hφ h1 g1,dL h hφ h2 g2⟩
  .cases hx
end
def I7 (s:MS) (x:Option Operand) (d:Nat):Option Nat:=match x with
 | none=>some d
 | some x=>E8 (Eo s x)
def uU:Option Operand->Bool
 | none=>true
 | some x=>Ap x
def ADh:AV->Bool
 | .c (.ref _)=>true
 | _=>false
def vwQ (P:Program) (e:TypeId) (x:AV):Bool:=match Af P e with
 | some n=>decide (5<=n)&&ADh x
 | none=>false
def vwE (P:Program) (s:MS) (e:TypeId) (x:AV) (lo hi:Option Operand):Option (AV×List Ob):=match Af P e,x with
 | some n,.c (.ref l)=>match DF s.st l with
  | some ob=>match I7 s lo 0,I7 s hi ob.xs.length with
   | some i,some h=>if i<h/\h<=ob.xs.length then some (.vw (.c (.ref l)) i n (h-i),s.st) else none
   | _,_=>none
  | none=>none
 | _,_=>none
def Uo (P:Program) (s:MS) (T:TypeId) (x:AV) (lo hi:Option Operand):Option (AV×List Ob):=match P.underlying T with
 | some .string=>match x with
  | .c (.v (.string b))=>match I7 s lo 0,I7 s hi b.size with
   | some l,some h=>if l<=h/\h<=b.size then some (.c (.v (.string (b.extract l h))),s.st) else none
   | _,_=>none
  | _=>none
 | some (.slice e)=>if vwQ P e x=true then vwE P s e x lo hi else match x with
  | .c d=>match Af P e,fzC s.st d with
   | some n,some (.sl xs)=>match I7 s lo 0,I7 s hi xs.length with
    | some l,some h=>if l<=h/\h<=xs.length/\xs.all (fun r=>r.length==n)=true then some (.c (.sl ((xs.drop l).take (h-l))),uH s.st d) else none
    | _,_=>none
   | _,_=>none
  | _=>none
 | _=>none
theorem kF (h:Core w0 St0 St β s a w) {x:Option Operand} (hx:uU x=true) {d k:Nat} (hk:I7 s x d=some k):(x=none/\k=d)\/∃ kd y,x=some y/\a.eval y = .int kd (k:Int):=by
 cases x with
 | none=>simp[I7] at hk; grind
 | some y =>
  obtain⟨kd,h2⟩:=nz (CU h y hx) hk
  grind
theorem IA (k:IntKind) (i y:Nat) (code:BoundsCode) (h:i<=y):(Instr.sliceBound (.int k (i:Int)) y code).run P w = .ok i w:=by grind [run_sliceBound]
theorem Ur (h:Core w0 St0 St β s a w) {lo hi:Option Operand} (h1:uU lo=true) (h2:uU hi=true) {len cap l r:Nat} (hl:I7 s lo 0=some l) (hr:I7 s hi len=some r) (hlr:l<=r) (hrl:r<=len) (hc:len<=cap) (isS:Bool) :
  (Instr.sliceBounds isS len cap (lo.map a.eval) (hi.map a.eval) none).run P w = .ok (l,r,cap) w:=by
 rcases kF h h1 hl with ⟨rfl,rfl⟩ | ⟨k1,y1,rfl,e1⟩<;>rcases kF h h2 hr with ⟨rfl,rfl⟩ | ⟨k2,y2,rfl,e2⟩
 .simp[Instr.sliceBounds]
 .simp[Instr.sliceBounds,e2,IA _ r cap _ AOl]
 .simp[Instr.sliceBounds,e1,IA _ l r _ hlr]
 .simp[Instr.sliceBounds,e1,e2,IA _ r cap _ (show r<=cap from AOl),IA _ l r _ hlr]
theorem ADi (h:Core w0 St0 St β s a w) (o:Oper) (T:TypeId) (x:Operand) (lo hi:Option Operand) (ho:o.op = .slice T x lo hi none) (hc:Ap x=true) (h1:uU lo=true) (h2:uU hi=true) {y:AV} {st':List Ob} (hy:Uo P s T (Eo s x) lo hi=some (y,st')):Does P a w w0 St0 s o y st':=by
 have he:=CU h x hc;unfold Uo at hy;split at hy
 .rename_i hu;split at hy
  .rename_i b hev;split at hy
   .rename_i l r hl hr;split at hy
    .rename_i hcond;simp only[ai,bb] at hy;obtain⟨rfl,rfl⟩:=hy;rw[hev] at he;obtain⟨hv,hw⟩:=O8 he;have hb:=Ur (P:=P) h h1 h2 (len:=b.size) (cap:=b.size) hl hr hcond.1 hcond.2 (aG _) false;refine⟨_,.string (b.extract l r),_,St,β, ?_,.inl rfl,h,XY ?_⟩
     .simp[execOp,ho,Instr.sliceAt,run_underlying hu,Instr.slice,hv,hb]
     .simp only[Qv,aQ] at hw ⊢;simp_all<;>omega
    .cases hy
   .cases hy
  .cases hy
 .rename_i e hu;split at hy
  .unfold vwE at hy;split at hy
   .rename_i n l hs hev;split at hy
    .rename_i ob hob;split at hy
     .rename_i i r hl hr;split at hy
      .rename_i hcond;obtain⟨c1,c2⟩:=hcond;simp only[ai,bb] at hy;obtain⟨rfl,rfl⟩:=hy;rw[hev] at he;have hr0:=he;simp only[AVR,RdC,BQ] at he;obtain⟨g1,g2⟩:=Bo hob;rw[g1] at he;simp only at he;have h6:=he.2 g2;cases hb:β l with
       | none =>
        rw[hb] at h6
        have:=h6.2
        rw[this] at c2
        simp at c2
        omega
       | some b =>
        rw[hb] at h6
        obtain⟨cap,cs,hv,e2,e3,_,_⟩:=h6
        have hbd:=Ur (P:=P) h h1 h2 (len:=ob.xs.length) (cap:=cap) hl hr AOl c2 e2 true
        refine⟨_,.slice (some ⟨b,i*n,none⟩) (r-i) (cap-i),_,St,β, ?_,.inl rfl,h, ?_⟩
        .have hne:¬ cap=i:=by omega
         simp[execOp,ho,Instr.sliceAt,run_underlying hu,Instr.slice,hv,hbd,IM hs,hne,addr_add]
        .rw[hv] at hr0
         simp only[AVR]
         exact⟨b,_,cap,cap-i,rfl,AOl,AOl,by simpa only[AVR] using hr0⟩
      .cases hy
     .cases hy
    .cases hy
   .cases hy
  split at hy
  .rename_i d hev;split at hy
   .rename_i n xs hs hf;split at hy
    .rename_i l r hl hr;split at hy
     .rename_i hcond;obtain⟨c1,c2,c3⟩:=hcond;simp only[ai,bb] at hy;obtain⟨rfl,rfl⟩:=hy;rw[hev] at he;simp only[AVR] at he;obtain⟨St',q1,q2,q3,q4⟩:=oG h hf;have hd:=q4 _ he.toB;simp only[RdD] at hd;obtain⟨ad,cap,hv,e2,e3,e4,e5⟩:=hd;have hb:=Ur (P:=P) h h1 h2 (len:=xs.length) (cap:=cap) hl hr c1 c2 e2 true;have hall:∀ z∈xs,z.length=n:=fun z hz=>AOo;refine⟨_,.slice (if cap=l then ad else ad.map (·.add (l*n))) (r-l) (cap-l),_,St',β, ?_,.inl rfl,q1, ?_⟩
      .simp[execOp,ho,Instr.sliceAt,run_underlying hu,Instr.slice,hv,hb,IM hs]
      .simp only[AVR,RdC,RdD];have hlen:((xs.drop l).take (r-l)).length=r-l:=AOn;refine⟨_,cap-l,by rw[hlen],AOl,AOl,⟨n,fun z hz=>hall z (yE (uF hz))⟩, ?_⟩;by_cases hz:r-l=0
       .grind
       .right;rcases e5 with rfl | ⟨b,off,rfl,e6⟩
        .grind
        .have hne:¬ cap=l:=by omega
         refine⟨b,off+l*n,by simp[hne,addr_add], ?_⟩;refine ADP n (fun z hz=>hall z (yE (uF hz))) fun i z hi=>?_;rw[aaC] at hi;split at hi
         .rw[aaV] at hi;have:=e6.at n hall (l+i) z hi;grind
         .cases hi
     .cases hy
    .cases hy
   .cases hy
  .cases hy
 .cases hy
def Am (st:List Ob) (l:Nat):List Ob:=st.modify l fun ob=>{ ob with live:=false }
theorem IB {st:List Ob} {l l':Nat} {ob:Ob} (h:(Am st l)[l']?=some ob):∃ ob',st[l']?=some ob'/\(l=l'->ob = { ob' with live:=false })/\(l≠l'->ob=ob'):=by unfold Am at h;grind
theorem Oe {st:List Ob} {l l':Nat} {ob:Ob} (h:st[l']?=some ob):(Am st l)[l']?=some (if l=l' then { ob with live:=false } else ob):=by unfold Am;grind
theorem ABr {st:List Ob} (l l':Nat) (u:Value) (h:BQ w st β l' u):BQ w (Am st l) β l' u:=by unfold BQ at h ⊢;exact ANn
theorem AFR {st:List Ob} (l:Nat) (l' i off:Nat) (u:Value) (h:AVR w St st β (.lp l' i off) u):AVR w St (Am st l) β (.lp l' i off) u:=by simp only[AVR] at h ⊢;exact ANn
theorem Core.kill (h:Core w0 St0 St β s a w) (l:Nat):Core w0 St0 St β ⟨s.n,s.env,Am s.st l⟩ a w/\(∀ x u,AVR w St s.st β x u->AVR w St (Am s.st l) β x u):=by
 have hr:=fun l' u hu=>ABr (w:=w) (β:=β) (st:=s.st) l l' u hu;have hA:∀ x u,AVR w St s.st β x u->AVR w St (Am s.st l) β x u:=fun x u hx=>AVR.mono (fun _ _ h=>h) (fun _ _ _=>rfl) hr (fun l' i off u hu=>AFR l l' i off u hu) x u hx;have hg:∀ l' o2,(Am s.st l)[l']?=some o2->o2.live=true->s.st[l']?=some o2/\l≠l':=by intro l' o2 h2 hl;obtain⟨o3,p1,p2,p3⟩:=IB h2;exact ANg
 refine⟨?_,hA⟩
 exact {
  defers:=h.defers
  size:=h.size
  lim:=h.lim
  env:=fun i=>hA _ _ (h.env i)
  below:=h.below,st0:=h.st0,stOld:=h.stOld,stIn:=h.stIn
  obs:=fun l' o2 b hl hlive hβ=>by obtain⟨p1,_⟩:=hg l' o2 hl hlive;obtain⟨q1,q2,q3⟩:=h.obs l' o2 b p1 hlive hβ;exact⟨q1,q2,ObR.mono (fun _ _ h=>h) (fun _ _ _=>rfl) hr rfl q3⟩
  nil:=fun l' o2 hl hlive hβ=>h.nil l' o2 (hg l' o2 hl hlive).1 hlive hβ
  inj:=fun l1 l2 o1 o2 b h1 h2 h3 h4 h5 h6=>h.inj l1 l2 o1 o2 b (hg l1 o1 h1 h3).1 (hg l2 o2 h2 h4).1 h3 h4 h5 h6
  sep:=fun l' o2 b o hl hlive hβ hbo=>h.sep l' o2 b o (hg l' o2 hl hlive).1 hlive hβ hbo
  own:=h.own.move id (fun x hx=>⟨⟨hx.1,hx.2.1,hx.2.2.1,hx.2.2.2.1,fun l' o2 hl' hlv=>hx.2.2.2.2 l' o2 (hg l' o2 hl' hlv).1 hlv⟩,rfl⟩) (fun _ _ h=>h) (fun _ _ _=>rfl)
   (fun l' o2 b k c h1 h2 h3 h4 _=>⟨o2,b,(hg l' o2 h1 h2).1,h2,h3,h4,rfl⟩) (fun _ _ _ _ _ _ _ _ e=>e) }
theorem Core.turn (h:Core w0 St0 St β s a w) {b:Nat} (hB:w0.may b) (hN:Own w0 (fun x=>x=b) w St s.st β) (hfree:∀ l o2,s.st[l]?=some o2->o2.live=true->β l≠some b) {cs cs':Array Value} {ty:TypeId} (hcs:w.heap[b]?=some (.cells cs ty (0,0)))
  (hst:∀ o,St b o->cs'[o]?=cs[o]?) (hsz:cs'.size=cs.size):Core w0 St0 St β s a (w.setRow b cs'):=by
 have hoth:∀ k,k≠b->(w.setRow b cs').heap[k]?=w.heap[k]?:=fun k hk=>setRow_other w b k cs' hk
 have hnew:(w.setRow b cs').heap[b]?=some (.cells cs' ty (0,0)):=setRow_heap w b cs cs' ty (0,0) hcs
 have hcell:∀ b' o,St b' o->(w.setRow b cs').cell? ⟨b',o,none⟩=w.cell? ⟨b',o,none⟩:=fun b' o hbo=>by
  by_cases e:b'=b
  .subst e;rw[World.cell?,World.cell?,hnew,hcs];grind
  grind [cell_of_block]
 have hbelow:BelowB w0 (w.setRow b cs'):=h.below.step (n:=0) ⟨rfl,rfl,rfl,AQA,fun k hk=>absurd hk (Nat.not_lt_zero _)⟩ (fun k h1 h2=>hoth k fun e=>by
  subst e;rcases hB with h' | h'
  .omega
  grind) fun k hk=>by
  grind [ADR,yI]
 have hr:∀ l' u,BQ w s.st β l' u->BQ (w.setRow b cs') s.st β l' u:=by intro l' u hu;unfold BQ at hu ⊢;exact AMD
 have hA:∀ x u,AVR w St s.st β x u->AVR (w.setRow b cs') St s.st β x u:=fun x u hx=>AVR.mono (fun _ _ h=>h) hcell hr (fun l i off u hu=>by simpa only[AVR] using hu) x u hx
 exact {
  defers:=h.defers
  size:=h.size
  lim:=h.lim
  env:=fun i=>hA _ _ (h.env i)
  below:=hbelow
  st0:=h.st0,stOld:=h.stOld
  stIn:=fun b' o hbo=>by simpa [World.setRow] using h.stIn b' o hbo
  obs:=fun l' o2 b2 hl hlive hβ=>by obtain⟨q1,q2,q3⟩:=h.obs l' o2 b2 hl hlive hβ;have hne:b2≠b:=fun e=>hfree l' o2 hl hlive (by rw[hβ,e]);exact⟨q1,AQA,ObR.mono (fun _ _ h=>h) hcell hr (hoth b2 hne) q3⟩
  nil:=h.nil,inj:=h.inj,sep:=h.sep
  own:=hN.move id (fun x hx=>⟨⟨hx.1,fun h=>h,by simpa [World.setRow] using hx.2.2.1,hx.2.2.2.1,hx.2.2.2.2⟩,hoth x hx.2.1⟩) (fun _ _ h=>h) hcell
   (fun l' o2 b2 k c h1 h2 h3 h4 _=>⟨o2,b2,h1,h2,h3,h4,cell_of_block (hoth b2 fun e=>hfree l' o2 h1 h2 (by rw[h3,e]))⟩) (fun _ _ _ _ _ _ _ _ e=>e) }
def rowOk (n:Nat) (r:List Cl):Bool:=r.length==n&&r.all fun c=>!HY c
def Ll (n:Nat) (ys:List (List Cl)):Bool:=ys.all (rowOk n)
def yO (P:Program) (s:MS) (T:TypeId) (x y:AV):Option (AV×List Ob):=match EF P T with
 | some e=>match Af P e,Uj P e,ET P e with
  | some n,some zs,some by'=>if zs.length=n/\0<n/\by'<=65536 then match y with
    | .c d=>match UG s.st d with
     | some ys=>if Ll n ys=true then match x with
        | .c (.v (.slice none 0 0))=>if ys.length<=2147483648\/(ys.length<=1099511627776/\by'<=128) then some (.c (.ref s.st.length),s.st ++ [⟨e,n,ys,true,true⟩]) else none
        | .c (.ref l)=>match DF s.st l with
         | some ob=>if ob.ty=e/\ob.sz=n/\(ob.xs.length+ys.length<=2147483648\/(ob.xs.length+ys.length<=1099511627776/\by'<=128)) then some (.c (.ref s.st.length),Am s.st l ++ [⟨e,n,ob.xs++ys,ob.wr,true⟩]) else none
         | none=>none
        | _=>none
       else none
     | none=>none
    | _=>none
   else none
  | _,_,_=>none
 | none=>none
theorem I8 (st:List Ob) (l:Nat):(Am st l).length=st.length:=by simp[Am]
theorem IP {T e:TypeId} {n:Nat} {ty:TypeId} (ht:P.underlying T=some (.slice e)) (hs:Af P e=some n) (base:Option Addr) (len cap:Nat) (hle:len<=cap) (ad:Option Addr) (c:Nat) (w:World) :
  (Builtin.append_ #[T,T] ty #[.slice base len cap,.slice ad 0 c]).run P w = .ok (.slice base len cap) w:=by
 cases ad with
 | none=>cases base<;>simp[Builtin.append_,run_underlying ht,IM hs,Builtin.lenOf,Builtin.firstCells,hle,storeCells]
 | some ad=>cases base<;>simp[Builtin.append_,run_underlying ht,IM hs,Builtin.lenOf,Builtin.firstCells,hle,storeCells,loadCells,loadCellsFrom]
theorem Fg (w:World) (o:Obj):Below w.heap.size w (w.drew.alloc o):=⟨rfl,rfl,rfl,AOm,fun k hk=>by
 show (w.heap.push o)[k]?=_;grind⟩
theorem E_ (w:World) (o:Obj):(w.drew.alloc o).heap[w.heap.size]?=some o:=by show (w.heap.push o)[w.heap.size]?=_;simp
def AKf (w:World) (ob:Ob) (u:Value):Option Nat->Prop
 | none=>u = .slice none 0 0/\ob.xs = []
 | some b=>∃ cap cs,u = .slice (some ⟨b,0,none⟩) ob.xs.length cap/\ob.xs.length<=cap/\cap<=maxLen/\w.heap[b]?=some (.cells cs ob.ty (0,0))/\cs.size=cap*ob.sz
theorem Nq {st:List Ob} {ob:Ob} {b:Option Nat} {u:Value} (hone:u.oneCell'=true)
  (hb:β st.length=b) (hu:ob.live=true->AKf w ob u b) :
  AVR w St (st ++ [ob]) β (.c (.ref st.length)) u:=by
 simp only[AVR,RdC,BQ]
 rw[aS (aG _)]
 simp only[jv,ab,hb]
 refine⟨hone,fun hl=>?_⟩
 have:=hu hl
 cases b with
 | none=>exact this
 | some b=>exact this
theorem Vq (h:Core w0 St0 St β s a w) {l:Nat} {ob:Ob} {b0:Nat} (hob:s.st[l]?=some ob) (hlive:ob.live=true) (hβ:β l=some b0) {w':World} {b':Nat} {ob':Ob} {ys:List (List Cl)} (hxs:ob'.xs=ob.xs++ys)
  (hys:∀ (k:Nat) (c:Cl),ys.flatten[k]?=some c->HY c=false) (hfree:∀ x,PX w0 (fun _=>False) w St s.st β x->x≠b'/\w'.heap[x]?=w.heap[x]?) (hsize:w.heap.size<=w'.heap.size)
  (hcell:∀ b o,St b o->w'.cell? ⟨b,o,none⟩=w.cell? ⟨b,o,none⟩) (hoth:∀ (l2:Nat) (o2:Ob) (b2:Nat),s.st[l2]?=some o2->o2.live=true->β l2=some b2->l≠l2->w'.heap[b2]?=w.heap[b2]?)
  (hmv:∀ k,k<ob.xs.flatten.length->w'.cell? ⟨b',k,none⟩=w.cell? ⟨b0,k,none⟩) :
  Own w0 (fun _=>False) w' St (Am s.st l ++ [ob']) (fun i=>if i=(Am s.st l).length then some b' else β i):=by
 have hkl:(Am s.st l).length=s.st.length:=I8 s.st l
 have hll:l<s.st.length:=(az.1 hob).1
 refine h.own.move (fun i=>if i=s.st.length then l else i) (fun x hx=>?_) (fun _ _ h=>h) hcell (fun l2 o2 b k c hl hlive2 hβ2 hk hc=>?_) (fun l1 l2 o1 o2 h1 h2 g1 g2 e=>?_)
 .obtain⟨q1,q2⟩:=hfree x hx
  refine⟨⟨hx.1,fun h=>h,bm hx.2.2.1 hsize,hx.2.2.2.1,fun i o2 hi hlv=>?_⟩,q2⟩
  by_cases e:i=(Am s.st l).length
  .grind
  .simp only[e,aL]
   have hlt:i<(Am s.st l).length:=by have:=(az.1 hi).1;simp at this;omega
   rw[aY hlt] at hi
   obtain⟨o3,r1,r2,r3⟩:=IB hi
   have hne:l≠i:=fun e2=>AOo
   have:=r3 hne
   subst this
   exact hx.2.2.2.2 i o2 r1 hlv
 .by_cases e:l2=s.st.length
  .grind
  grind [az,aY,IB,cell_of_block]
 grind [aY,IB]
theorem uV (h:Core w0 St0 St β s a w) {l:Nat} {ob:Ob} {b0:Nat} (hob:s.st[l]?=some ob) (hlive:ob.live=true) (hβ:β l=some b0):Own w0 (fun x=>x=b0) w St (Am s.st l) β:=by
 have hg:∀ l' o2,(Am s.st l)[l']?=some o2->o2.live=true->s.st[l']?=some o2/\l≠l':=by intro l' o2 h2 hl;obtain⟨o3,p1,p2,p3⟩:=IB h2;exact ANg
 exact h.own.move id (fun x hx=>⟨⟨hx.1,fun e=>hx.2.2.2.2 l ob hob hlive (by rw[hβ,e]),hx.2.2.1,hx.2.2.2.1,fun l' o2 hl' hlv=>hx.2.2.2.2 l' o2 (hg l' o2 hl' hlv).1 hlv⟩,rfl⟩) (fun _ _ h=>h) (fun _ _ _=>rfl)
  (fun l' o2 b k c h1 h2 h3 h4 _=>⟨o2,b,(hg l' o2 h1 h2).1,h2,h3,h4,rfl⟩) (fun _ _ _ _ _ _ _ _ e=>e)
theorem Iz {n m k:Nat} (h1:n<=2147483648\/(n<=1099511627776/\m<=128)) (h2:m<=65536) (h3:k<=n):k*m<=140737488355328:=by
 rcases h1 with h1 | ⟨h1,h4⟩
 .have:=aaZ (abI h3 h1) h2;omega
 .have:=aaZ (abI h3 h1) h4;omega
theorem oN (h:Core w0 St0 St β s a w) (e:TypeId) (n:Nat) (xs:List (List Cl)) (wr:Bool) (vals:List Value) (rest:Array Value) (cap:Nat) (hl:∀ x∈xs,x.length=n) (hvl:vals.length=xs.length*n)
  (hc:∀ (k:Nat) (c:Cl),xs.flatten[k]?=some c->∃ u,vals[k]?=some u/\RdC w St s.st β c u) (hcap:xs.length<=cap) (hcm:cap<=maxLen) (hrest:rest.size=(cap-xs.length)*n) :
  ∃ β',Core w0 St0 St β' ⟨s.n,s.env,s.st ++ [⟨e,n,xs,wr,true⟩]⟩ a (w.drew.alloc (.cells (vals.toArray++rest) e)) /\
   AVR (w.drew.alloc (.cells (vals.toArray++rest) e)) St (s.st ++ [⟨e,n,xs,wr,true⟩]) β' (.c (.ref s.st.length)) (.slice (some ⟨w.heap.size,0,none⟩) xs.length cap):=by
 obtain⟨β',h1,h2,h3,_⟩:=h.newOb (Fg w (.cells (vals.toArray++rest) e)) ⟨e,n,xs,wr,true⟩ (some w.heap.size) rfl AOm (fun b hb=>by
  grind [ai,E_,az,aay])
 exact AMz
theorem Vr (h:Core w0 St0 St β s a w) (e:TypeId) (n:Nat) (xs:List (List Cl)) (wr:Bool) (vals:List Value) (rest:Array Value) (cap:Nat) (hl:∀ x∈xs,x.length=n) (hvl:vals.length=xs.length*n)
  (hc:∀ (k:Nat) (c:Cl),xs.flatten[k]?=some c->∃ u,vals[k]?=some u/\RdB w St s.st β c u) (hcap:xs.length<=cap) (hcm:cap<=maxLen) (hrest:rest.size=(cap-xs.length)*n)
  (hown:Own w0 (fun _=>False) (w.drew.alloc (.cells (vals.toArray++rest) e)) St (s.st ++ [⟨e,n,xs,wr,true⟩]) (fun l=>if l=s.st.length then some w.heap.size else β l)) :
  ∃ β',Core w0 St0 St β' ⟨s.n,s.env,s.st ++ [⟨e,n,xs,wr,true⟩]⟩ a (w.drew.alloc (.cells (vals.toArray++rest) e)) /\
   AVR (w.drew.alloc (.cells (vals.toArray++rest) e)) St (s.st ++ [⟨e,n,xs,wr,true⟩]) β' (.c (.ref s.st.length)) (.slice (some ⟨w.heap.size,0,none⟩) xs.length cap):=by
 obtain⟨β',h1,h2,h3,_⟩:=h.newObB (Fg w (.cells (vals.toArray++rest) e)) ⟨e,n,xs,wr,true⟩ (some w.heap.size) rfl AOm (fun b hb=>by
  grind [ai,E_,az,aay]) hown
 exact AMz
theorem AHK (h:Core w0 St0 St β s a w) (o:Oper) (T:TypeId) (c:Call) (x y:Operand) (ho:o.op = .call c) (hcl:c.callee = .builtin .append) (hca:c.args.toList = [x,y]) (hct:c.argTypes.toList = [T,T]) (hc:Ap x=true) (hc2:Ap y=true)
  {z:AV} {st':List Ob} (hy:yO P s T (Eo s x) (Eo s y)=some (z,st')):Does P a w w0 St0 s o z st':=by
 have hx:=CU h x hc
 have hyy:=CU h y hc2
 have ha1:c.argTypes = #[T,T]:=APC
 have ha2:c.args = #[x,y]:=APD
 have hexec:∀ v w',(Builtin.append_ #[T,T] o.type #[a.eval x,a.eval y]).run P w = .ok v w'->(execOp a.eval o).run P w = .ok (.value v) w':=by exact ALK
 unfold yO at hy
 split at hy
 .rename_i e hte
  have ht:=Ju hte
  split at hy
  .rename_i n cs0 by' hs hz0 hb
   obtain⟨zs,hz,_,rfl⟩:=O6 hz0
   split at hy
   .rename_i hcond
    obtain⟨hzl0,hn,hby⟩:=hcond
    have hzl:zs.length=n:=AP2
    split at hy
    .rename_i d hevy
     split at hy
     .rename_i ys hd
      .
       split at hy
       .rename_i hall
        have hyl:∀ r∈ys,r.length=n:=fun r hr=>by have:=aC.1 hall r hr;simp only[rowOk,ar,qX] at this;exact this.1
        have hysno:∀ (k:Nat) (c:Cl),ys.flatten[k]?=some c->HY c=false:=fun k c hk=>by obtain⟨r,hr,hcr⟩:=aa0.1 (aT hk);have:=aC.1 hall r hr;simp only[rowOk,ar] at this;grind
        rw[hevy] at hyy
        simp only[AVR] at hyy
        obtain⟨ad,capy,hvy,_,hcells⟩:=Uk h hyy hd
        have hxx:AVR w St s.st β (Eo s x) (a.eval x):=hx
        have hyfl:ys.flatten.length=ys.length*n:=EO hyl
        have htab:∃ i z',P.info? e=some i/\i.zero=some z'/\i.size=n/\i.bytes=by'/\z'.cells.size=n:=by exact AI4
        obtain⟨i,z',hi,hiz,hsz,hbs,hzs⟩:=htab
        have hnews:ys≠ []->∃ b off,ad=some ⟨b,off,none⟩/\∃ news:List Value,news.length=ys.length*n/\(∀ (k:Nat) (v:Value),news[k]?=some v->w.cell? ((⟨b,off,none⟩:Addr).add k)=some v) /\
          (∀ (k:Nat) (c:Cl),ys.flatten[k]?=some c->∃ u,news[k]?=some u/\RdC w St s.st β c u)/\∀ u∈news,u.oneCell'=true:=by
         intro hne
         rcases hcells with h0 | ⟨b,off,rfl,hcell⟩
         .grind
         .obtain⟨news,n1,n2⟩:=KI (R:=fun c u=>RdC w St s.st β c u) (w:=w) (b:=b) ys.flatten off (fun k c hk=>by
           obtain⟨v,hv1,hv2⟩:=hcell k c hk
           exact⟨v,hv1,hv2.toC (hysno k c hk)⟩)
          have hat:∀ (k:Nat) (v:Value),news[k]?=some v->∃ c,ys.flatten[k]?=some c/\w.cell? ⟨b,off+k,none⟩=some v/\RdC w St s.st β c v:=fun k v hk=>by
           exact ANF
          refine⟨b,off,rfl,news,by rw[n1,hyfl],fun k v hk=>?_,fun k c hk=>?_,fun u hu=>?_⟩
          .grind [addr_add]
          .grind
          .obtain⟨k,hk⟩:=abd.1 hu
           obtain⟨_,_,_,hr⟩:=hat k u hk
           exact hr.one
        split at hy
        .
         rename_i hevx
         split at hy
         .rename_i hle
          simp only[ai,bb] at hy
          obtain⟨rfl,rfl⟩:=hy
          rw[hevx] at hxx
          obtain⟨hvx,_⟩:=O8 hxx
          by_cases hne:ys = []
          .subst hne
           have hy0:([]:List (List Cl)).length=0:=rfl
           rw[hy0] at hvy
           have hrun:(Builtin.append_ #[T,T] o.type #[a.eval x,a.eval y]).run P w = .ok (.slice none 0 0) w:=by rw[hvx,hvy]; exact IP ht hs none 0 0 (aG _) ad capy w
           obtain⟨a1,a2,a3⟩:=h.addOb ⟨e,n,[],true,true⟩ none (fun _=>rfl) AOm h.own AOm
           exact⟨_,.slice none 0 0,w,St,_,hexec _ _ hrun,.inl rfl,a1,Nq (b:=none) rfl AOm fun _=>⟨rfl,rfl⟩⟩
          .obtain⟨b,off,rfl,news,n1,n2,n3,n4⟩:=hnews hne
           have hpos:0<ys.length:=aa1.2 hne
           have hr:=run_append_nil (P:=P) w T o.type e i z' ht hi hiz ⟨b,off,none⟩ ys.length capy news AOo n2 hpos AOl APh
           rw[<- hvx,<- hvy] at hr
           have hge:=grownCap_ge w ys.length 0 e
           obtain⟨β',g1,g2⟩:=oN h e n ys true news (Builtin.zeroCells z'.cells (grownCap w ys.length 0 e-ys.length)) (grownCap w ys.length 0 e) hyl n1 (fun k c hk=>by
            grind) hge (grownCap_le_maxLen w ys.length 0 e APW) AQU
           exact AL8
         .cases hy
        .
         rename_i l hevx
         split at hy
         .rename_i ob hob
          split at hy
          .rename_i hoc
           obtain⟨hty,hosz,hle⟩:=hoc
           simp only[ai,bb] at hy
           obtain⟨rfl,rfl⟩:=hy
           rw[hevx] at hxx
           obtain⟨hl,hlive⟩:=Bo hob
           simp only[AVR,RdC,BQ,hl] at hxx
           have hx2:=hxx.2 hlive
           obtain⟨k1,k2⟩:=h.kill l
           have hkr:∀ c u,RdC w St s.st β c u->RdC w St (Am s.st l) β c u:=fun c u hc=>by exact AMT
           have hkrB:∀ c u,RdB w St s.st β c u->RdB w St (Am s.st l) β c u:=fun c u hc=>by exact ALJ
           have hll:l<s.st.length:=(az.1 hl).1
           have hkl:=I8 s.st l
           cases hβ:β l with
           | none =>
            simp only[hβ] at hx2
            obtain⟨hvx,hobx⟩:=hx2
            rw[hobx] at hle ⊢
            simp only[aA]
            by_cases hne:ys = []
            .exact AKC
            .obtain⟨b,off,rfl,news,n1,n2,n3,n4⟩:=hnews hne
             have hpos:0<ys.length:=aa1.2 hne
             simp only[aj,nY] at hle
             have hr:=run_append_nil (P:=P) w T o.type e i z' ht hi hiz ⟨b,off,none⟩ ys.length capy news AOo n2 hpos AOl APh
             rw[<- hvx,<- hvy] at hr
             have hge:=grownCap_ge w ys.length 0 e
             obtain⟨β',g1,g2⟩:=oN k1 e n ys ob.wr news (Builtin.zeroCells z'.cells (grownCap w ys.length 0 e-ys.length)) (grownCap w ys.length 0 e) hyl n1 (fun k c hk=>by
              grind) hge (grownCap_le_maxLen w ys.length 0 e APW) AQU
             simp only[hkl] at g2
             exact AL8
           | some b0 =>
            simp only[hβ] at hx2
            obtain⟨cap,cs,hvx,c1,c2,c3,c4⟩:=hx2
            obtain⟨p1,p2,cs',p3,p4,p5⟩:=h.obs l ob b0 hl hlive hβ
            rw[c3] at p3
            simp only[ai,Obj.cells.injEq,yH] at p3
            subst p3
            have hfree:∀ l' o2,(Am s.st l)[l']?=some o2->o2.live=true->β l'≠some b0:=fun l' o2 h2 hl2 hb2=>by exact AMi
            have hkeep:∀ o,St b0 o->ob.wr=false/\o<ob.xs.length*ob.sz:=fun o hbo=>h.sep l ob b0 o hl hlive hβ hbo
            have hxfl:ob.xs.flatten.length=ob.xs.length*n:=by rw[EO p4,hosz]
            have hlall:∀ r∈ob.xs++ys,r.length=n:=fun r hr=>by grind
            have hcap:cs.size=cap*n:=by rw[c4,hosz]
            by_cases hne:ys = []
            .subst hne
             have hy0:([]:List (List Cl)).length=0:=rfl
             rw[hy0] at hvy
             have hrun:(Builtin.append_ #[T,T] o.type #[a.eval x,a.eval y]).run P w = .ok (.slice (some ⟨b0,0,none⟩) ob.xs.length cap) w:=by rw[hvx,hvy]; exact IP ht hs _ _ _ c1 ad capy w
             obtain⟨a1,a2,a3⟩:=k1.addObB ⟨e,n,ob.xs ++ [],ob.wr,true⟩ (some b0) AOm (fun b hb=>by
              grind) (Vq h hl hlive hβ (ys:=[]) rfl (fun k c hk=>APZ) (fun x hx=>⟨fun e2=>hx.2.2.2.2 l ob hl hlive (by rw[hβ,e2]),rfl⟩) (aG _) (fun _ _ _=>rfl) (fun _ _ _ _ _ _ _=>rfl) (fun _ _=>rfl))
             exact AMI
            .obtain⟨b,off,rfl,news,n1,n2,n3,n4⟩:=hnews hne
             have hpos:0<ys.length:=aa1.2 hne
             have hFC:ob.xs.flatten.length<=cs.toList.length:=NJ (R:=fun c u=>RdB w St s.st β c u) (fun k c hk=>AOo)
             have holdl:(cs.toList.take (ob.xs.length*n)).length=ob.xs.length*n:=by rw[aU,ZW AOl]
             have hold:∀ (k:Nat) (c:Cl),ob.xs.flatten[k]?=some c->∃ u,(cs.toList.take (ob.xs.length*n))[k]?=some u/\RdB w St s.st β c u:=fun k c hk=>by grind
             have hboth:∀ (k:Nat) (c:Cl),(ob.xs++ys).flatten[k]?=some c->∃ u,(cs.toList.take (ob.xs.length*n)++news)[k]?=some u/\RdB w St (Am s.st l) β c u:=fun k c hk=>by exact ALs
             by_cases hroom:ob.xs.length+ys.length<=cap
             .
              have hcsl:cs.toList.length=cs.size:=AOm
              have hcapm:(ob.xs.length+ys.length)*n<=cap*n:=aaF _ hroom
              have hfit:ob.xs.length*i.size+news.length<=cs.size:=AQI
              have hr:=run_append_room (P:=P) w T o.type e i ht hi b0 ob.xs.length cap cs AOo ⟨b,off,none⟩ ys.length capy news AOo n2 n4 hroom hfit
              rw[<- hvx,<- hvy,hsz] at hr
              rw[hsz] at hfit
              generalize hcs':(cs.toList.take (ob.xs.length*n)++news++cs.toList.drop (ob.xs.length*n+news.length)).toArray=C' at hr
              have hC's:C'.size=cs.size:=by exact AN5
              have hC'at:∀ k,k<ob.xs.length*n+news.length->C'[k]?=(cs.toList.take (ob.xs.length*n)++news)[k]?:=fun k hk=>by grind
              have hturn:=k1.turn (b:=b0) p1 (uV h hl hlive hβ) hfree c3 (cs':=C') (fun o hbo=>by
               grind) hC's
              have hcell:∀ b' o,St b' o->(w.setRow b0 C').cell? ⟨b',o,none⟩=w.cell? ⟨b',o,none⟩:=fun b' o hbo=>by exact AKj
              have hrr:∀ l' u,BQ w (Am s.st l) β l' u->BQ (w.setRow b0 C') (Am s.st l) β l' u:=by exact AM2
              obtain⟨a1,a2,a3⟩:=hturn.addObB ⟨e,n,ob.xs++ys,ob.wr,true⟩ (some b0) AOm (fun b' hb=>by
               simp only[ai] at hb;subst hb;refine⟨p1,AQA,hfree,fun o hbo=>?_,C',by grind [setRow_heap],hlall,fun k c hk=>?_⟩
               .grind
               .obtain⟨u,u1,u2⟩:=hboth k c hk;have hk':k<ob.xs.length*n+news.length:=by exact ANh
                exact⟨u,AOo,RdB.mono (fun _ _ h=>h) hcell hrr _ _ u2⟩) (by
               refine Vq h hl hlive hβ (ys:=ys) rfl hysno (fun x hx=>?_) AQA hcell (fun l2 o2 b2 h1 h2 h3 h4=>?_) (fun k hk=>?_)
               .exact AL9
               .exact ANM
               .have hk':k<ob.xs.length*n:=by rw[<- hxfl]; exact hk
                rw[World.cell?,World.cell?,setRow_heap w b0 cs C' ob.ty (0,0) c3,c3];grind)
              refine⟨_,_,_,St,_,hexec _ _ hr,.inl rfl,a1, ?_⟩
              exact ALW
             .
              have holds:∀ (j:Nat) (v:Value),(cs.toList.take (ob.xs.length*n))[j]?=some v->w.cell? ((⟨b0,0,none⟩:Addr).add j)=some v:=fun j v hj=>by exact AMa
              have hr:=run_append_grow (P:=P) w T o.type e i z' ht hi hiz ⟨b0,0,none⟩ ob.xs.length cap (cs.toList.take (ob.xs.length*n)) AOo holds ⟨b,off,none⟩ ys.length capy news AOo n2 AOl AOl (by
               exact growslice_fits AOl (by rw[hbs]; exact Iz hle hby (aG _)))
              rw[<- hvx,<- hvy] at hr
              have hge:=grownCap_ge w (ob.xs.length+ys.length) cap e
              obtain⟨β',g1,g2⟩:=Vr k1 e n (ob.xs++ys) ob.wr (cs.toList.take (ob.xs.length*n)++news) (Builtin.zeroCells z'.cells (grownCap w (ob.xs.length+ys.length) cap e-(ob.xs.length+ys.length))) (grownCap w (ob.xs.length+ys.length) cap e) hlall (by
               grind) hboth AOo (grownCap_le_maxLen w _ cap e APW) (by rw[size_zeroCells,hzs]; simp) (by
               have hbd:=Fg w (.cells ((cs.toList.take (ob.xs.length*n)++news).toArray++Builtin.zeroCells z'.cells (grownCap w (ob.xs.length+ys.length) cap e-(ob.xs.length+ys.length))) e);refine Vq h hl hlive hβ (ys:=ys) rfl hysno (fun x hx=>⟨fun e2=>AQX,hbd.block x hx.2.2.1⟩) hbd.size (fun b o hbo=>cell_of_block (hbd.block b (h.stIn b o hbo))) (fun l2 o2 b2 h1 h2 h3 _=>hbd.block b2 (h.obs l2 o2 b2 h1 h2 h3).2.1) (fun k hk=>?_);have hk':k<ob.xs.length*n:=AQa;rw[World.cell?,World.cell?,E_ w _,c3];grind)
              exact ALa
          .cases hy
         .cases hy
        .cases hy
       .cases hy
     .cases hy
    .cases hy
   .cases hy
  .cases hy
 .cases hy
theorem Vs (h:Core w0 St0 St β s a w) {l l2:Nat} {ob ob2:Ob} (hob:s.st[l]?=some ob) (hlive:ob.live=true) (hob2:s.st[l2]?=some ob2) (hlive2:ob2.live=true) (hne:l≠l2) {w':World} {b':Nat} {ob':Ob} (hxs:ob'.xs=ob.xs++ob2.xs) (hlv':ob'.live=true)
  (hfree:∀ x,PX w0 (fun _=>False) w St s.st β x->x≠b'/\w'.heap[x]?=w.heap[x]?) (hsize:w.heap.size<=w'.heap.size) (hcell:∀ b o,St b o->w'.cell? ⟨b,o,none⟩=w.cell? ⟨b,o,none⟩)
  (hoth:∀ (l3:Nat) (o3:Ob) (b3:Nat),s.st[l3]?=some o3->o3.live=true->β l3=some b3->l≠l3->w'.heap[b3]?=w.heap[b3]?)
  (hmv:∀ b0,β l=some b0->∀ k,k<ob.xs.flatten.length->w'.cell? ⟨b',k,none⟩=w.cell? ⟨b0,k,none⟩)
  (hmv2:∀ b2,β l2=some b2->∀ k,k<ob2.xs.flatten.length->w'.cell? ⟨b',ob.xs.flatten.length+k,none⟩=w.cell? ⟨b2,k,none⟩) :
  Own w0 (fun _=>False) w' St (Am (Am s.st l) l2 ++ [ob']) (fun i=>if i=s.st.length then some b' else β i):=by
 obtain⟨φ,f1,f2,f3⟩:=h.own
 have hkl:(Am (Am s.st l) l2).length=s.st.length:=by rw[I8,I8]
 have hget:∀ (i:Nat) (o:Ob),(Am (Am s.st l) l2 ++ [ob'])[i]?=some o->o.live=true->(i=s.st.length/\o=ob')\/(i<s.st.length/\i≠l/\i≠l2/\s.st[i]?=some o):=by
  intro i o hi hlv;rcases bh i s.st.length with h' | h'
  .grind [aY,IB]
  .grind
 have hN:∃ o,(Am (Am s.st l) l2 ++ [ob'])[s.st.length]?=some o/\o.live=true:=by refine⟨ob', ?_,hlv'⟩;rw[aS AOl,hkl];simp
 refine⟨fun i k x=>(i=s.st.length/\((k<ob.xs.flatten.length/\φ l k x)\/(ob.xs.flatten.length<=k/\φ l2 (k-ob.xs.flatten.length) x)))\/(i<s.st.length/\i≠l/\i≠l2/\φ i k x), ?_, ?_, ?_⟩
 .intro i o b k c hi hlv hβ hk hc
  rcases hget i o hi hlv with ⟨rfl,rfl⟩ | ⟨h1,h2,h3,h4⟩
  .simp only[aO,ai] at hβ
   subst hβ
   rw[hxs,aaD] at hk
   rcases bh k ob.xs.flatten.length with h' | h'
   .rw[aY h'] at hk
    cases hβl:β l with
    | none=>rw[h.nil l ob hob hlive hβl] at h'; simp at h'
    | some b0 =>
     obtain⟨u,hu,hr⟩:=f1 l ob b0 k c hob hlive hβl hk hc
     exact⟨u,AOo,RdO.mono (fun _ _ h=>h) hcell c u _ _ (fun x hx=>.inl ⟨rfl,.inl ⟨h',hx⟩⟩) (fun x hx=>(hfree x (f2 _ _ _ hx).2).2) hr⟩
   .rw[aS h'] at hk
    have hk2:k-ob.xs.flatten.length<ob2.xs.flatten.length:=(az.1 hk).1
    cases hβl:β l2 with
    | none=>rw[h.nil l2 ob2 hob2 hlive2 hβl] at hk2; simp at hk2
    | some b2 =>
     obtain⟨u,hu,hr⟩:=f1 l2 ob2 b2 _ c hob2 hlive2 hβl hk hc
     refine⟨u, ?_,RdO.mono (fun _ _ h=>h) hcell c u _ _ (fun x hx=>.inl ⟨rfl,.inr ⟨h',hx⟩⟩) (fun x hx=>(hfree x (f2 _ _ _ hx).2).2) hr⟩
     have:=hmv2 b2 hβl _ hk2
     simp_all
  .have hne':¬ i=s.st.length:=by omega
   simp only[hne',aL] at hβ
   obtain⟨u,hu,hr⟩:=f1 i o b k c h4 hlv hβ hk hc
   exact⟨u,by grind [cell_of_block],RdO.mono (fun _ _ h=>h) hcell c u _ _ (fun x hx=>.inr ⟨h1,h2,h3,hx⟩) (fun x hx=>(hfree x (f2 _ _ _ hx).2).2) hr⟩
 .have free:∀ x,PX w0 (fun _=>False) w St s.st β x->PX w0 (fun _=>False) w' St (Am (Am s.st l) l2 ++ [ob']) (fun i=>if i=s.st.length then some b' else β i) x:=by
   intro x hx
   refine⟨hx.1,fun h=>h,bm hx.2.2.1 hsize,hx.2.2.2.1,fun i o hi hlv=>?_⟩
   rcases hget i o hi hlv with ⟨rfl,rfl⟩ | ⟨h1,h2,h3,h4⟩
   .grind
   .have hne':¬ i=s.st.length:=by omega
    simp only[hne',aL]
    exact hx.2.2.2.2 i o h4 hlv
  rintro i k x (⟨rfl,hx⟩ | ⟨h1,h2,h3,hx⟩)
  .grind
  .obtain⟨⟨o,b,p1,p2,p3⟩,p4⟩:=f2 i k x hx
   refine⟨⟨o,b, ?_,p2, ?_⟩,free x p4⟩
   .rw[aY AOl]
    rw[Oe (Oe p1)]
    grind
   grind
 grind
theorem Ri {st:List Ob} {l l2 l':Nat} {o2:Ob} (h2:(Am (Am st l) l2)[l']?=some o2) (hl:o2.live=true):st[l']?=some o2/\l≠l'/\l2≠l':=by grind [IB]
theorem ABs (h:Core w0 St0 St β s a w) {l:Nat} (l2:Nat) {ob:Ob} {b0:Nat} (hob:s.st[l]?=some ob) (hlive:ob.live=true) (hβ:β l=some b0):Own w0 (fun x=>x=b0) w St (Am (Am s.st l) l2) β:=
 h.own.move id (fun x hx=>⟨⟨hx.1,fun e=>hx.2.2.2.2 l ob hob hlive (by rw[hβ,e]),hx.2.2.1,hx.2.2.2.1,fun l' o2 hl' hlv=>hx.2.2.2.2 l' o2 (Ri hl' hlv).1 hlv⟩,rfl⟩) (fun _ _ h=>h) (fun _ _ _=>rfl)
  (fun l' o2 b k c h1 h2 h3 h4 _=>⟨o2,b,(Ri h1 h2).1,h2,h3,h4,rfl⟩) (fun _ _ _ _ _ _ _ _ e=>e)
def ADj (P:Program) (s:MS) (T:TypeId) (x y:AV):Option (AV×List Ob):=match EF P T with
 | some e=>match Af P e,Uj P e,ET P e with
  | some n,some zs,some by'=>if zs.length=n/\0<n/\by'<=65536 then match x,y with
    | .c (.ref l),.c (.ref l2)=>match DF s.st l,DF s.st l2 with
     | some ob,some ob2=>if l≠l2/\ob.ty=e/\ob.sz=n/\ob2.sz=n/\(ob.xs.length+ob2.xs.length<=2147483648\/(ob.xs.length+ob2.xs.length<=1099511627776/\by'<=128)) then some (.c (.ref s.st.length),Am (Am s.st l) l2 ++ [⟨e,n,ob.xs++ob2.xs,ob.wr,true⟩]) else none
     | _,_=>none
    | _,_=>none
   else none
  | _,_,_=>none
 | none=>none
theorem AFS (h:Core w0 St0 St β s a w) (o:Oper) (T:TypeId) (c:Call) (x y:Operand) (ho:o.op = .call c) (hcl:c.callee = .builtin .append) (hca:c.args.toList = [x,y]) (hct:c.argTypes.toList = [T,T]) (hc:Ap x=true) (hc2:Ap y=true)
  {z:AV} {st':List Ob} (hy:ADj P s T (Eo s x) (Eo s y)=some (z,st')):Does P a w w0 St0 s o z st':=by
 have hx:=CU h x hc
 have hyy:=CU h y hc2
 have ha1:c.argTypes = #[T,T]:=APC
 have ha2:c.args = #[x,y]:=APD
 have hexec:∀ v w',(Builtin.append_ #[T,T] o.type #[a.eval x,a.eval y]).run P w = .ok v w'->(execOp a.eval o).run P w = .ok (.value v) w':=by exact ALK
 unfold ADj at hy
 split at hy
 .rename_i e hte
  have ht:=Ju hte
  split at hy
  .rename_i n cs0 by' hs hz0 hb
   obtain⟨zs,hz,_,rfl⟩:=O6 hz0
   split at hy
   .rename_i hcond
    obtain⟨hzl0,hn,hby⟩:=hcond
    have hzl:zs.length=n:=AP2
    split at hy
    .rename_i l l2 hevx hevy
     split at hy
     .rename_i ob ob2 hob hob2
      split at hy
      .rename_i hoc
       obtain⟨hll2,hty,hosz,hosz2,hle⟩:=hoc
       simp only[ai,bb] at hy
       obtain⟨rfl,rfl⟩:=hy
       obtain⟨hl,hlive⟩:=Bo hob
       obtain⟨hl2,hlive2⟩:=Bo hob2
       generalize hys:ob2.xs=ys at *
       have hyl:∀ r∈ys,r.length=n:=by
        cases hβ2:β l2 with
        | none =>
         have:=h.nil l2 ob2 hl2 hlive2 hβ2
         grind
        | some b2 =>
         obtain⟨_,_,_,_,p4,_⟩:=h.obs l2 ob2 b2 hl2 hlive2 hβ2
         grind
       rw[hevy] at hyy
       simp only[AVR] at hyy
       have hd:UG s.st (.ref l2)=some ys:=by simp[UG,hob2,hys]
       obtain⟨ad,capy,hvy,_,hcells⟩:=Uk h hyy hd
       have had:∀ b2,β l2=some b2->ad=some ⟨b2,0,none⟩:=fun b2 hb2=>by have:=hyy;simp only[RdC,BQ,hl2] at this;grind
       rw[hevx] at hx
       have hyfl:ys.flatten.length=ys.length*n:=EO hyl
       have htab:∃ i z',P.info? e=some i/\i.zero=some z'/\i.size=n/\i.bytes=by'/\z'.cells.size=n:=by exact AI4
       obtain⟨i,z',hi,hiz,hsz,hbs,hzs⟩:=htab
       have hnews:ys≠ []->∃ b off,ad=some ⟨b,off,none⟩/\∃ news:List Value,news.length=ys.length*n/\(∀ (k:Nat) (v:Value),news[k]?=some v->w.cell? ((⟨b,off,none⟩:Addr).add k)=some v) /\
         (∀ (k:Nat) (c:Cl),ys.flatten[k]?=some c->∃ u,news[k]?=some u/\RdB w St s.st β c u)/\(∀ u∈news,u.oneCell'=true):=by
        intro hne
        rcases hcells with h0 | ⟨b,off,rfl,hcell⟩
        .grind
        .obtain⟨news,n1,n2⟩:=KI (R:=fun c u=>RdB w St s.st β c u) (w:=w) (b:=b) ys.flatten off (fun k c hk=>by
          grind)
         have hat:∀ (k:Nat) (v:Value),news[k]?=some v->∃ c,ys.flatten[k]?=some c/\w.cell? ⟨b,off+k,none⟩=some v/\RdB w St s.st β c v:=fun k v hk=>by
          exact ANF
         grind [addr_add,abd,RdB.one]
       simp only[AVR,RdC,BQ,hl] at hx
       have hx2:=hx.2 hlive
       obtain⟨k1a,k2a⟩:=h.kill l
       obtain⟨k1,k2b⟩:=k1a.kill l2
       have k2:∀ x u,AVR w St s.st β x u->AVR w St (Am (Am s.st l) l2) β x u:=fun x u hx=>k2b x u (k2a x u hx)
       have hkr:∀ c u,RdC w St s.st β c u->RdC w St (Am (Am s.st l) l2) β c u:=fun c u hc=>by exact AMT
       have hkrB:∀ c u,RdB w St s.st β c u->RdB w St (Am (Am s.st l) l2) β c u:=fun c u hc=>by exact ALJ
       have hll:l<s.st.length:=(az.1 hl).1
       have hkl:(Am (Am s.st l) l2).length=s.st.length:=by rw[I8,I8]
       cases hβ:β l with
       | none =>
        simp only[hβ] at hx2
        obtain⟨hvx,hobx⟩:=hx2
        rw[hobx] at hle ⊢
        simp only[aA]
        by_cases hne:ys = []
        .exact AKC
        .obtain⟨b,off,rfl,news,n1,n2,n3,n4⟩:=hnews hne
         have hpos:0<ys.length:=aa1.2 hne
         simp only[aj,nY] at hle
         have hr:=run_append_nil (P:=P) w T o.type e i z' ht hi hiz ⟨b,off,none⟩ ys.length capy news AOo n2 hpos AOl APh
         rw[<- hvx,<- hvy] at hr
         have hge:=grownCap_ge w ys.length 0 e
         obtain⟨β',g1,g2⟩:=Vr k1 e n ys ob.wr news (Builtin.zeroCells z'.cells (grownCap w ys.length 0 e-ys.length)) (grownCap w ys.length 0 e) hyl n1 (fun k c hk=>by
          grind) hge (grownCap_le_maxLen w ys.length 0 e APW) AQU (by have hbd:=Fg w (.cells (news.toArray++Builtin.zeroCells z'.cells (grownCap w ys.length 0 e-ys.length)) e);rw[hkl];refine Vs h hl hlive hl2 hlive2 hll2 AOo rfl (fun x hx=>⟨fun e2=>AQX,hbd.block x hx.2.2.1⟩) hbd.size (fun b o hbo=>cell_of_block (hbd.block b (h.stIn b o hbo))) (fun l3 o3 b3 h1 h2 h3 _=>hbd.block b3 (h.obs l3 o3 b3 h1 h2 h3).2.1) (fun b1 e1 k hk=>AOo) (fun b2 e1 k hk=>?_);have:=had b2 e1;simp only[ai,Addr.mk.injEq,yH] at this;obtain⟨rfl,rfl⟩:=this;rw[hys,hyfl] at hk;have hk2:k<news.length:=AOl;have:=n2 k _ (am hk2);rw[addr_add,nY] at this;rw[this,World.cell?,E_ w _,hobx];grind)
         simp only[hkl] at g2
         exact AL8
       | some b0 =>
        simp only[hβ] at hx2
        obtain⟨cap,cs,hvx,c1,c2,c3,c4⟩:=hx2
        obtain⟨p1,p2,cs',p3,p4,p5⟩:=h.obs l ob b0 hl hlive hβ
        rw[c3] at p3
        simp only[ai,Obj.cells.injEq,yH] at p3
        subst p3
        have hfree:∀ l' o2,(Am (Am s.st l) l2)[l']?=some o2->o2.live=true->β l'≠some b0:=fun l' o2 h2 hl2 hb2=>by obtain⟨r1,r2,_⟩:=Ri h2 hl2;exact r2 (h.inj l l' ob o2 b0 hl r1 hlive hl2 hβ hb2)
        have hkeep:∀ o,St b0 o->ob.wr=false/\o<ob.xs.length*ob.sz:=fun o hbo=>h.sep l ob b0 o hl hlive hβ hbo
        have hxfl:ob.xs.flatten.length=ob.xs.length*n:=by rw[EO p4,hosz]
        have hlall:∀ r∈ob.xs++ys,r.length=n:=fun r hr=>by grind
        have hcap:cs.size=cap*n:=by rw[c4,hosz]
        by_cases hne:ys = []
        .subst hne
         have hy0:([]:List (List Cl)).length=0:=rfl
         rw[hy0] at hvy
         have hrun:(Builtin.append_ #[T,T] o.type #[a.eval x,a.eval y]).run P w = .ok (.slice (some ⟨b0,0,none⟩) ob.xs.length cap) w:=by rw[hvx,hvy]; exact IP ht hs _ _ _ c1 ad capy w
         obtain⟨a1,a2,a3⟩:=k1.addObB ⟨e,n,ob.xs ++ [],ob.wr,true⟩ (some b0) AOm (fun b hb=>by
          grind) (by
          rw[hkl];exact Vs h hl hlive hl2 hlive2 hll2 (by rw[hys]) rfl (fun x hx=>⟨fun e2=>hx.2.2.2.2 l ob hl hlive (by rw[hβ,e2]),rfl⟩) (aG _) (fun _ _ _=>rfl) (fun _ _ _ _ _ _ _=>rfl) (fun b1 e1 _ _=>AOo) (fun _ _ k hk=>AOo))
         exact AMI
        .obtain⟨b,off,rfl,news,n1,n2,n3,n4⟩:=hnews hne
         have hpos:0<ys.length:=aa1.2 hne
         have hFC:ob.xs.flatten.length<=cs.toList.length:=NJ (R:=fun c u=>RdB w St s.st β c u) (fun k c hk=>AOo)
         have holdl:(cs.toList.take (ob.xs.length*n)).length=ob.xs.length*n:=by rw[aU,ZW AOl]
         have hold:∀ (k:Nat) (c:Cl),ob.xs.flatten[k]?=some c->∃ u,(cs.toList.take (ob.xs.length*n))[k]?=some u/\RdB w St s.st β c u:=fun k c hk=>by grind
         have hboth:∀ (k:Nat) (c:Cl),(ob.xs++ys).flatten[k]?=some c->∃ u,(cs.toList.take (ob.xs.length*n)++news)[k]?=some u/\RdB w St (Am (Am s.st l) l2) β c u:=fun k c hk=>by grind
         by_cases hroom:ob.xs.length+ys.length<=cap
         .
          have hcsl:cs.toList.length=cs.size:=AOm
          have hcapm:(ob.xs.length+ys.length)*n<=cap*n:=aaF _ hroom
          have hfit:ob.xs.length*i.size+news.length<=cs.size:=AQI
          have hr:=run_append_room (P:=P) w T o.type e i ht hi b0 ob.xs.length cap cs AOo ⟨b,off,none⟩ ys.length capy news AOo n2 n4 hroom hfit
          rw[<- hvx,<- hvy,hsz] at hr
          rw[hsz] at hfit
          generalize hcs':(cs.toList.take (ob.xs.length*n)++news++cs.toList.drop (ob.xs.length*n+news.length)).toArray=C' at hr
          have hC's:C'.size=cs.size:=by exact AN5
          have hC'at:∀ k,k<ob.xs.length*n+news.length->C'[k]?=(cs.toList.take (ob.xs.length*n)++news)[k]?:=fun k hk=>by grind
          have hturn:=k1.turn (b:=b0) p1 (ABs h l2 hl hlive hβ) hfree c3 (cs':=C') (fun o hbo=>by
           grind) hC's
          have hcell:∀ b' o,St b' o->(w.setRow b0 C').cell? ⟨b',o,none⟩=w.cell? ⟨b',o,none⟩:=fun b' o hbo=>by exact AKj
          have hrr:∀ l' u,BQ w (Am (Am s.st l) l2) β l' u->BQ (w.setRow b0 C') (Am (Am s.st l) l2) β l' u:=by
           intro l' u hu;unfold BQ at hu ⊢;cases hq:(Am (Am s.st l) l2)[l']? with
           | none=>grind
           | some o2 =>
            grind [setRow_other]
          obtain⟨a1,a2,a3⟩:=hturn.addObB ⟨e,n,ob.xs++ys,ob.wr,true⟩ (some b0) AOm (fun b' hb=>by
           simp only[ai] at hb;subst hb;refine⟨p1,AQA,hfree,fun o hbo=>?_,C',by grind [setRow_heap],hlall,fun k c hk=>?_⟩
           .grind
           .obtain⟨u,u1,u2⟩:=hboth k c hk;have hk':k<ob.xs.length*n+news.length:=by exact ANh
            exact⟨u,AOo,RdB.mono (fun _ _ h=>h) hcell hrr _ _ u2⟩) (by
           rw[hkl];refine Vs h hl hlive hl2 hlive2 hll2 (by rw[hys]) rfl (fun x hx=>?_) AQA hcell (fun l3 o3 b3 h1 h2 h3 h4=>?_) (fun b1 e1 k hk=>?_) (fun b2 e1 k hk=>?_)
           .exact AL9
           .exact setRow_other w b0 b3 C' fun e2=>h4 (h.inj l l3 ob o3 b0 hl h1 hlive h2 hβ (by rw[h3,e2]))
           .rw[hβ] at e1;have:=uG e1;subst this;have hk':k<ob.xs.length*n:=AQa;rw[World.cell?,World.cell?,setRow_heap w b0 cs C' ob.ty (0,0) c3,c3];grind
           .have:=had b2 e1;simp only[ai,Addr.mk.injEq,yH] at this;obtain⟨rfl,rfl⟩:=this;rw[hys,hyfl] at hk;have hk2:k<news.length:=AOl;have:=n2 k _ (am hk2);rw[addr_add,nY] at this;rw[this,World.cell?,setRow_heap w b0 cs C' ob.ty (0,0) c3];simp_all)
          refine⟨_,_,_,St,_,hexec _ _ hr,.inl rfl,a1, ?_⟩
          exact ALW
         .
          have holds:∀ (j:Nat) (v:Value),(cs.toList.take (ob.xs.length*n))[j]?=some v->w.cell? ((⟨b0,0,none⟩:Addr).add j)=some v:=fun j v hj=>by exact AMa
          have hr:=run_append_grow (P:=P) w T o.type e i z' ht hi hiz ⟨b0,0,none⟩ ob.xs.length cap (cs.toList.take (ob.xs.length*n)) AOo holds ⟨b,off,none⟩ ys.length capy news AOo n2 AOl AOl (by
           exact growslice_fits AOl (by rw[hbs]; exact Iz hle hby (aG _)))
          rw[<- hvx,<- hvy] at hr
          have hge:=grownCap_ge w (ob.xs.length+ys.length) cap e
          obtain⟨β',g1,g2⟩:=Vr k1 e n (ob.xs++ys) ob.wr (cs.toList.take (ob.xs.length*n)++news) (Builtin.zeroCells z'.cells (grownCap w (ob.xs.length+ys.length) cap e-(ob.xs.length+ys.length))) (grownCap w (ob.xs.length+ys.length) cap e) hlall (by
           grind) hboth AOo (grownCap_le_maxLen w _ cap e APW) (by rw[size_zeroCells,hzs]; simp) (by
           have hbd:=Fg w (.cells ((cs.toList.take (ob.xs.length*n)++news).toArray++Builtin.zeroCells z'.cells (grownCap w (ob.xs.length+ys.length) cap e-(ob.xs.length+ys.length))) e);rw[hkl];refine Vs h hl hlive hl2 hlive2 hll2 (by rw[hys]) rfl (fun x hx=>⟨fun e2=>AQX,hbd.block x hx.2.2.1⟩) hbd.size (fun b o hbo=>cell_of_block (hbd.block b (h.stIn b o hbo))) (fun l3 o3 b3 h1 h2 h3 _=>hbd.block b3 (h.obs l3 o3 b3 h1 h2 h3).2.1) (fun b1 e1 k hk=>?_) (fun b2 e1 k hk=>?_)
           .rw[hβ] at e1;have:=uG e1;subst this;have hk':k<ob.xs.length*n:=AQa;rw[World.cell?,World.cell?,E_ w _,c3];grind
           .have:=had b2 e1;simp only[ai,Addr.mk.injEq,yH] at this;obtain⟨rfl,rfl⟩:=this;rw[hys,hyfl] at hk;have hk2:k<news.length:=AOl;have:=n2 k _ (am hk2);rw[addr_add,nY] at this;rw[this,World.cell?,E_ w _];grind)
          exact ALa
      .cases hy
     .cases hy
    .cases hy
   .cases hy
  .cases hy
 .cases hy
def AJE (zs:List Cl):Bool:=zs.any fun c=>match c with | .v (.slice _ _ _)=>true | _=>false
def ADk (P:Program) (s:MS) (T:TypeId) (x y:AV):Option (AV×List Ob):=match x,y with
 | .c (.ref l),.c (.ref l2)=>match EF P T with
  | some e=>match Uj P e with
   | some zs=>if AJE zs=true then match DF s.st l2 with
     | some ob2=>if DR ob2.xs=true then ADj P s T (.c (.ref l)) (.c (.ref l2)) else yO P s T (.c (.ref l)) (.c (.ref l2))
     | none=>none
    else yO P s T (.c (.ref l)) (.c (.ref l2))
   | none=>none
  | none=>none
 | x,y=>yO P s T x y
theorem AFT (h:Core w0 St0 St β s a w) (o:Oper) (T:TypeId) (c:Call) (x y:Operand) (ho:o.op = .call c) (hcl:c.callee = .builtin .append) (hca:c.args.toList = [x,y]) (hct:c.argTypes.toList = [T,T]) (hc:Ap x=true) (hc2:Ap y=true)
  {z:AV} {st':List Ob} (hy:ADk P s T (Eo s x) (Eo s y)=some (z,st')):Does P a w w0 St0 s o z st':=by
 unfold ADk at hy
 grind [AFS,AHK]
