/- Merged by program. -/
import Derived.WalkKit
import Derived.WalkSpells
import Derived.WalkLawsBesides
import Derived.OrdersHeld
import Derived.RangeFuncRecord
import Derived.OrdersIn
import Derived.TacticsIn
import Derived.Lib.Strings
import Derived.Lib.SmallJoins
import Derived.Laws.Externs
import Derived.MapKept
set_option linter.all false
set_option maxRecDepth 1000000
set_option maxHeartbeats 16000000
namespace Go.Proofs.YtffbidffdbpcoaaGreatDoor
open Go Go.RowKit
theorem ω{p:Prop}(h:p:=by omega):p:=h
theorem ψ{p:Prop}(h:p:=by decide):p:=h
theorem ξ{p:Prop}(h:p:=by simp):p:=h
abbrev JIq(n:Int):Prop:= -9223372036854775808<=n/\n<=9223372036854775807
def O.{u}{a:Sort u}{b:a}:b=b:=rfl
abbrev Env:=List (Nat×Value)
def fnd:Env->Nat->Option Value
 |[],_=>none
 | (j, v) :: r, i => match Nat.beq i j with
   |true=>some v
   |false=>fnd r i
def look (e:Env):Operand->Option Value
 | .tmp t=>fnd e t
 | .const v=>some v
 | .global g=>some (.pointer (some ⟨g,0,none⟩))
 | .func f=>some (.func (.func f) #[] #[])
inductive Dfr where
 |mk (D:Nat)
 |call (f:FuncId) (cap args:List Value)
def Dfr.d:Dfr->Deferred
 | .mk D=>{target:= .collected D,args:=#[]}
 | .call f cap args=>{target:= .fn (.func f) cap.toArray,args:=args.toArray}
def marks (ms:List Dfr):List Deferred:=ms.map Dfr.d
structure WO (n:Nat)(ms:List Dfr)(e:Env)(a:Act):Prop where
 size:a.tmps.size=n
 defers:a.defers=marks ms
 get:∀i v,fnd e i=some v->a.tmps.getD i undef=v
def WO.look {n:Nat}{ms:List Dfr}{e:Env}{a:Act}(h:WO n ms e a){x:Operand}{v:Value}(hx:look e x=some v):a.eval x=v:=by
 cases x with
 |tmp t=>exact h.get t v hx
 |const u=>exact Option.some.inj hx
 |global g=>exact Option.some.inj hx
 |func f=>exact Option.some.inj hx
theorem WO.put {n:Nat}{ms:List Dfr}{e:Env}{a:Act}(h:WO n ms e a){d:Nat}(hd:Nat.blt d n=true)(v:Value):WO n ms ((d,v)::e) (a.put (some d) v):=by
 have hd':d<n:=by simpa using hd
 refine⟨by simp[Act.put,h.size],by simpa[Act.put] using h.defers,λi u hi=>?_⟩
 simp only[Act.put]
 simp only[fnd] at hi
 by_cases hij:i=d
 ·subst hij;simp at hi;subst hi;simp[Array.getD,h.size,hd']
 ·have hb:Nat.beq i d=false:=by
   cases hq:Nat.beq i d with
   |false=>rfl
   |true=>exact absurd (Nat.eq_of_beq_eq_true hq) hij
  rw[hb] at hi;have hg:=h.get i u hi;rw[<-hg];simp only[Array.getD,Array.size_setIfInBounds];split
  ·rename_i hlt
   simp only[Array.getInternal_eq_getElem];rw[Array.getElem_setIfInBounds_ne];exact λhh=>hij hh.symm
  ·rfl
def WO.zdf {n:Nat}{ms:List Dfr}{e:Env}{a:Act}(h:WO n ms e a)(v:Value):WO n ms e (a.put none v):=h
def Sub (e e':Env):Prop:=∀i v,fnd e i=some v->fnd e' i=some v
theorem Sub.nil {e:Env}:Sub [] e:=λ_ _ h=>by simp[fnd] at h
theorem Sub.cons {e e':Env}{i:Nat}{v:Value}(h:fnd e' i=some v)(hr:Sub e e'):Sub ((i,v)::e) e':=λj u hj=>by
 simp only[fnd] at hj
 split at hj
 ·rename_i hb
  have:=Nat.eq_of_beq_eq_true hb;subst this;simp at hj;subst hj;exact h
 ·exact hr j u hj
def WO.sub {n:Nat}{ms:List Dfr}{e e':Env}{a:Act}(h:WO n ms e' a)(hs:Sub e e'):WO n ms e a:=⟨h.size,h.defers,λi v hi=>h.get i v (hs i v hi)⟩
def WA (S:Value->World->Prop):Ending->World->Prop:=λx w'=>∃v,x= .returned v/\S v w'
def ZM (P:Program)(f:FuncId)(rd:Option Nat)(dk:Bool)(R:Ending->World->Prop)(m:Machine)(cs:List Frame):Prop:=
 match rd with
 |none=>∃x w' fr,R x w'/\Comes P m (lone fr cs w') x/\fr.fn=f/\(match dk with|false=>fr.leaving P w' x|true=>fr.kind= .deferred/\fr.going P w' x)
 |some _=>∀c cs',cs=c::cs'->∃x w',R x w'/\Comes P m (match x with| .returned v=>lone (c.finish v) cs' w'| .panicked ch=>lone (c.raise ch) cs' w'| .outgrown=>lone c cs' w') x
def ZM.of_steps {P:Program}{f:FuncId}{rd:Option Nat}{dk:Bool}{R:Ending->World->Prop}{m m':Machine}{cs:List Frame}(hs:Steps P m m')(h:ZM P f rd dk R m' cs):ZM P f rd dk R m cs:=by
 cases rd with
 | none =>
   obtain⟨x,w',fr,hR,hc,hf,hl⟩:=h
   exact⟨x,w',fr,hR,Comes.of_steps hs hc,hf,hl⟩
 | some l =>
   intro c cs' hcs;obtain⟨x,w',hR,hc⟩:=h c cs' hcs;exact⟨x,w',hR,Comes.of_steps hs hc⟩
def zks:Bool->CallKind
 |false=> .normal
 |true=> .deferred
def Ws (P:Program)(f:FuncId)(rd:Option Nat)(dk:Bool)(R:Ending->World->Prop)(k:List Item)(a:Act)(w:World):Prop:=
 ∀(b:Frame),b.fn=f->b.kind=zks dk->b.roundOf=rd->∀cs,ZM P f rd dk R (lone (b.atR a k) cs w) cs
structure Cx where
 P:Program
 f:FuncId
 R:Value->World->Prop
 n:Nat
 rd:Option Nat:=none
 ms:List Dfr:=[]
 dk:Bool:=false
def Pu (C:Cx)(k:List Item)(e:Env)(w:World):Prop:=∀a,WO C.n C.ms e a->Ws C.P C.f C.rd C.dk (WA C.R) k a w
def Pu.sub {C:Cx}{k:List Item}{e e':Env}{w:World}(h:Pu C k e w)(hs:Sub e e'):Pu C k e' w:=λa ha=>h a (ha.sub hs)
theorem Ws.step {P:Program}{f:FuncId}{rd:Option Nat}{dk:Bool}{R:Ending->World->Prop}{k k':List Item}{a a':Act}{w w':World}
  (hs:∀(b:Frame) cs,step P (lone (b.atR a k) cs w)= .next (lone (b.atR a' k') cs w')) (h:Ws P f rd dk R k' a' w'):Ws P f rd dk R k a w:=λb hb hk hr cs=>
 (h b hb hk hr cs).of_steps (.one (hs b cs))
def WF (rd:Option Nat):Fence:={fn:=λ_=>True,depth:=none,alive:=false,round:=rd}
def z7G (rd:Option Nat)(n:Nat):(WF rd).room n:=λ_ h=>by simp[WF] at h
section
variable {C:Cx}{k k':List Item}{e:Env}{w:World}
def An {x y:Code}(h:Pu C (.code x:: .code y::k) e w):Pu C (.code (.seq x y)::k) e w:=λa ha=>Ws.step (λ_ _=>stepR_seq) (h a ha)
def OK (h:Pu C k e w):Pu C (.code .skip::k) e w:=λa ha=>Ws.step (λ_ _=>stepR_skip) (h a ha)
def z9I {l:Nat}(h:Pu C k e w):Pu C (.code (.label l)::k) e w:=λa ha=>Ws.step (λ_ _=>stepR_label) (h a ha)
def OL {id:Nat}{c:Code}(h:Pu C (.code c:: .inBlock id::k) e w):Pu C (.code (.block id c)::k) e w:=λa ha=>Ws.step (λ_ _=>stepR_block) (h a ha)
def OG {id:Nat}(h:Pu C k e w):Pu C (.inBlock id::k) e w:=λa ha=>Ws.step (λ_ _=>stepR_inBlock) (h a ha)
def OV {id:Nat}(hk:exitTo id k=some k')(h:Pu C k' e w):Pu C (.code (.exit id)::k) e w:=λa ha=>Ws.step (λ_ _=>stepR_exit hk) (h a ha)
def z5Z {c:Code}(h:Pu C (.code c:: .inLoop c::k) e w):Pu C (.inLoop c::k) e w:=λa ha=>Ws.step (λ_ _=>stepR_inLoop) (h a ha)
theorem Qk {c:Operand}{x y:Code}{t:Bool}(hc:look e c=some (.bool t))(ht:t=true->Pu C (.code x::k) e w)(hf:t=false->Pu C (.code y::k) e w):Pu C (.code (.cond c x y)::k) e w:=λa ha=>by
 cases t with
 |true=>exact Ws.step (k':= .code x::k) (λ_ _=>by simpa using stepR_cond (ha.look hc)) (ht O a ha)
 |false=>exact Ws.step (k':= .code y::k) (λ_ _=>by simpa using stepR_cond (ha.look hc)) (hf O a ha)
def OX {c:Operand}{x y:Code}{p:Prop}[hp:Decidable p](hc:look e c=some (.bool (decide p)))(ht:p->Pu C (.code x::k) e w)(hf:¬p->Pu C (.code y::k) e w):Pu C (.code (.cond c x y)::k) e w:=
 Qk hc (λh=>ht (of_decide_eq_true h)) (λh=>hf (of_decide_eq_false h))
def OZ {c:Operand}{x y:Code}(hc:look e c=some (.bool true))(h:Pu C (.code x::k) e w):Pu C (.code (.cond c x y)::k) e w:=Qk hc (λ_=>h) (λh=>by cases h)
def OR {c:Operand}{x y:Code}(hc:look e c=some (.bool false))(h:Pu C (.code y::k) e w):Pu C (.code (.cond c x y)::k) e w:=Qk hc (λh=>by cases h) (λ_=>h)
def zbD {α:Type}{c:Code}(x0:α)(E:α->Env)(I:α->World->Prop)(μ:α->Nat)(hE:Sub (E x0) e)(hI:I x0 w)
  (round:∀x w,I x w->(∀y w',I y w'->μ y<μ x->Pu C (.inLoop c::k) (E y) w')->Pu C (.code c:: .inLoop c::k) (E x) w):Pu C (.code (.loop c)::k) e w:=by
 have key:∀n x w,μ x=n->I x w->Pu C (.code c:: .inLoop c::k) (E x) w:=by
  intro n
  induction n using Nat.strongRecOn with
  | _ n ih =>
    intro x w hn hx;exact round x w hx λy w' hy hlt=>z5Z (ih (μ y) (hn▸hlt) y w' O hy)
 exact λa ha=>Ws.step (λ_ _=>stepR_loop) (key _ x0 w O hI a (ha.sub hE))
end
def QK (C:Cx)(k:List Item):Exit->Act->World->Prop
 | .normal,a,w=>Ws C.P C.f C.rd C.dk (WA C.R) k a w
 |_,_,_=>False
theorem QK.no {C:Cx}{k:List Item}:¬LetsOut (QK C k):=λ⟨_,_,h⟩=>h
def YJ {C:Cx}{c:Code}{k:List Item}{a:Act}{w:World}{n:Nat}(h:c.wpIn (WF C.rd) n C.P (QK C k) a w):Ws C.P C.f C.rd C.dk (WA C.R) (.code c::k) a w:=by
 intro b hb hk hr cs
 obtain⟨x,a',w',q,harr⟩:=h b k cs hr trivial (z7G _ _)
 cases x with
 |normal=>exact(q b hb hk hr cs).of_steps (StepsIn.steps harr)
 |outgrown=>exact q.elim
 |exit id=>exact q.elim
 |goto l=>exact q.elim
 |ret=>exact q.elim
 |panic ch=>exact q.elim
def resOf (e:Env):List ResultVar->Option (List Value)
 |[]=>some []
 | .tmp t :: r => match fnd e t, resOf e r with
   |some v,some vs=>some (v::vs)
   |_,_=>none
 |_=>none
def Q0:List Value->Value
 |[v]=>v
 |vs=> .tuple vs.toArray
def resM (a:Act):ResultVar->Sem Value
 | .tmp t=>pure (a.tmps.getD t undef)
 | .cell x t=>do loadVar t (<-asAddr (a.tmps.getD x undef))
def zc7 {n:Nat}{ms:List Dfr}{e:Env}{a:Act}(ha:WO n ms e a)(P:Program)(w:World):∀(rs:List ResultVar) (vs:List Value),resOf e rs=some vs->
  Sem.run P (rs.mapM (resM a)) w= .ok vs w:=by
 intro rs
 induction rs with
 |nil=>intro vs h;simp[resOf] at h;subst h;simp[go_sem]
 | cons r rs ih =>
   intro vs h
   cases r with
   |cell x t=>simp[resOf] at h
   | tmp t =>
     simp only[resOf] at h;split at h
     ·rename_i v vs' hv hvs
      simp at h;subst h;have h1:=ih vs' hvs;have hg:resM a (.tmp t)=pure v:=by simp only[resM];rw[ha.get t v hv]
      rw[List.mapM_cons,hg];simp only[pure_bind,Sem.run_bind,h1,Result.andThen,Sem.run_pure]
     ·cases h
def Te {n:Nat}{ms:List Dfr}{e:Env}{a:Act}(ha:WO n ms e a)(P:Program)(w:World)(fn:Func)(vs:List Value)(h:resOf e fn.results.toList=some vs):
  (results fn a.tmps).run P w= .ok (Q0 vs) w:=by
 have hm:=zc7 ha P w _ _ h
 have he:results fn a.tmps=(do
   let us<-fn.results.mapM (resM a)
   pure (if h:us.size=1 then us[0] else .tuple us)):=rfl
 rw[he,<-Array.toArray_toList (xs:=fn.results),List.mapM_toArray]
 simp only[Sem.run_bind,map_eq_pure_bind,hm,Result.andThen,Sem.run_pure]
 cases vs with
 |nil=>simp[Q0]
 | cons v r => cases r with
   |nil=>simp[Q0]
   |cons u r=>simp[Q0]
def VI (ms:List Dfr)(w:World):Prop:=∀d∈ms,∃D,d= .mk D/\w.heap[D]? =some (.deferred (some []))
def Ro:List Dfr->World->World
 |[],w=>w
 | .mk D::ms,w=>Ro ms (w.putObj D (.deferred none))
 | .call .. ::ms,w=>Ro ms w
def VW {P:Program}{fn:Func}{tmps:Array Value}{R:Ending->World->Prop}{v:Value}:∀(ms:List Dfr) (w:World),ms.Nodup->VI ms w->
  (results fn tmps).run P (Ro ms w)= .ok v (Ro ms w)->R (.returned v) (Ro ms w)->LeavesInM Fence.wide 0 P fn tmps R (marks ms) .returning w
 |[],w,_,_,hr,hR=>⟨v,hr,hR⟩
 | .call f c a :: ms, w, _, hm, _, _ => by
   obtain⟨D,h,-⟩:=hm _ (List.mem_cons_self ..)
   cases h
 | .mk D :: ms, w, hd, hm, hr, hR => by
   obtain⟨D',h,hD⟩:=hm _ (List.mem_cons_self ..);cases h;refine⟨ξ,.inl ⟨D,_,rfl,run_takeDeferred hD,?_⟩⟩;refine VW ms _ (List.nodup_cons.1 hd).2 (λd hd'=>?_) hr hR;obtain⟨D',rfl,hD'⟩:=hm d (by simp[hd']);refine⟨D',rfl,?_⟩;rw[World.putObj_heap_other (λh=>(List.nodup_cons.1 hd).1 (by subst h;exact hd'))];exact hD'
section
variable {C:Cx}{k:List Item}{e:Env}{w:World}{fn:Func}
def z06 {f:FuncId}{P:Program}{R:Ending->World->Prop}{m:Machine}{b:Frame}{a:Act}{todo:List Item}{cs:List Frame}{ms:List Dfr}(hf:P.funcs[f]? =some fn)(hb:b.fn=f)(hk:b.kind= .normal)
  (hd:a.defers=marks ms) (hl:LeavesInM Fence.wide 0 P fn a.tmps R (marks ms) .returning w)
  (hs:Steps P m (lone {b.atR a todo with mode:= .returning} cs w)):ZM P f none false R m cs:=by
 subst hb
 obtain⟨x,w',fr',hR',hs',hfn',hl'⟩:=leaves_stepsInM (F:=Fence.wide) (n:=0) a.defers .returning w {b.atR a todo with mode:= .returning} cs O O O hf hk trivial (room_wide _)
  (by rw[hd];exact hl)
 exact⟨x,w',fr',hR',Comes.of_steps hs (comesIn_wide.1 hs'),hfn',hl'⟩
def z54 (hrd:C.rd=none)(hdk:C.dk=false)(hf:C.P.funcs[C.f]? =some fn)
  (hr:∀a,WO C.n C.ms e a->LeavesInM Fence.wide 0 C.P fn a.tmps (WA C.R) (marks C.ms) .returning w):Pu C (.code .ret::k) e w:=λa ha b hb hk hro cs=>by
 rw[hdk] at hk⊢
 rw[hrd] at hro⊢
 exact z06 hf hb hk ha.defers (hr a ha) (.one (stepR_ret hro))
def zam (hrd:C.rd=none)(hdk:C.dk=false)(hf:C.P.funcs[C.f]? =some fn)
  (hr:∀a,WO C.n C.ms e a->LeavesInM Fence.wide 0 C.P fn a.tmps (WA C.R) (marks C.ms) .returning w):Pu C [] e w:=λa ha b hb hk hro cs=>by
 rw[hdk] at hk⊢
 rw[hrd] at hro⊢
 exact z06 hf hb hk ha.defers (hr a ha) (.one (stepR_end hro))
theorem YM (hrd:C.rd=none)(hf:C.P.funcs[C.f]? =some fn)(hn:C.ms.Nodup)(hm:VI C.ms w)
  (hr:∀a,WO C.n C.ms e a->∃v,(results fn a.tmps).run C.P (Ro C.ms w)= .ok v (Ro C.ms w)/\WA C.R (.returned v) (Ro C.ms w)) (hdk:C.dk=false:=by rfl):Pu C (.code .ret::k) e w:=
 z54 hrd hdk hf λa ha=>let ⟨_,h1,h2⟩:=hr a ha;VW _ _ hn hm h1 h2
def z5u (hrd:C.rd=none)(hf:C.P.funcs[C.f]? =some fn)(hn:C.ms.Nodup)(hm:VI C.ms w)
  (hr:∀a,WO C.n C.ms e a->∃v,(results fn a.tmps).run C.P (Ro C.ms w)= .ok v (Ro C.ms w)/\WA C.R (.returned v) (Ro C.ms w)) (hdk:C.dk=false:=by rfl):Pu C [] e w:=
 zam hrd hdk hf λa ha=>let ⟨_,h1,h2⟩:=hr a ha;VW _ _ hn hm h1 h2
def z5k {f:FuncId}{P:Program}{R:Ending->World->Prop}{m:Machine}{b:Frame}{a:Act}{todo:List Item}{cs:List Frame}{v:Value}(hf:P.funcs[f]? =some fn)(hb:b.fn=f)(hk:b.kind= .deferred)
  (hd:a.defers=[]) (hr:(results fn a.tmps).run P w= .ok v w) (hR:R (.returned v) w)
  (hs:Steps P m (lone {b.atR a todo with mode:= .returning} cs w)):ZM P f none true R m cs:=by
 subst hb
 exact⟨.returned v,w,_,hR,hs,rfl,hk,rfl,hd,fn,hf,hr⟩
def z4v (hrd:C.rd=none)(hdk:C.dk=true)(hms:C.ms=[])(hf:C.P.funcs[C.f]? =some fn)
  (hr:∀a,WO C.n C.ms e a->∃v,(results fn a.tmps).run C.P w= .ok v w/\WA C.R (.returned v) w):Pu C [] e w:=λa ha b hb hk hro cs=>by
 obtain⟨v,h1,h2⟩:=hr a ha
 rw[hdk] at hk⊢
 rw[hrd] at hro⊢
 exact z5k hf hb hk (by rw[ha.defers,hms];rfl) h1 h2 (.one (stepR_end hro))
end
section
variable {P:Program}{f:FuncId}{R:Value->World->Prop}{n:Nat}{k:List Item}{e:Env}{w:World}{fn:Func}{vs:List Value}
def OI (hf:P.funcs[f]? =some fn)(hr:resOf e fn.results.toList=some vs)(hR:WA R (.returned (Q0 vs)) w):Pu ⟨P,f,R,n,none,[],false⟩ (.code .ret::k) e w:=
 YM O hf List.nodup_nil (λ_ h=>by cases h) λa ha=>⟨_,Te ha P w fn vs hr,hR⟩
def Qh (hf:P.funcs[f]? =some fn)(hr:resOf e fn.results.toList=some vs)(hR:WA R (.returned (Q0 vs)) w):Pu ⟨P,f,R,n,none,[],false⟩ [] e w:=
 z5u O hf List.nodup_nil (λ_ h=>by cases h) λa ha=>⟨_,Te ha P w fn vs hr,hR⟩
def z3N {ms:List Dfr}(hn:ms.Nodup)(hm:VI ms w)(hf:P.funcs[f]? =some fn)(hr:resOf e fn.results.toList=some vs)(hR:WA R (.returned (Q0 vs)) (Ro ms w)):Pu ⟨P,f,R,n,none,ms,false⟩ (.code .ret::k) e w:=
 YM O hf hn hm λa ha=>⟨_,Te ha P _ fn vs hr,hR⟩
def zb9 {ms:List Dfr}(hn:ms.Nodup)(hm:VI ms w)(hf:P.funcs[f]? =some fn)(hr:resOf e fn.results.toList=some vs)(hR:WA R (.returned (Q0 vs)) (Ro ms w)):Pu ⟨P,f,R,n,none,ms,false⟩ [] e w:=
 z5u O hf hn hm λa ha=>⟨_,Te ha P _ fn vs hr,hR⟩
end
def envOf:Nat->List Value->Env
 |_,[]=>[]
 |i,v::r=>(i,v)::envOf (i+1) r
def WY:∀(l:List Value) (i j:Nat) (v:Value),fnd (envOf i l) j=some v->i<=j/\l[j-i]? =some v
 |[],_,_,_,h=>by simp[envOf,fnd] at h
 | u :: r, i, j, v, h => by
   simp only[envOf,fnd] at h;split at h
   ·rename_i hb
    have:=Nat.eq_of_beq_eq_true hb;subst this
    simpa using h
   ·rename_i hb
    have hne:j≠i:=λhh=>by subst hh;simp at hb
    obtain⟨h1,h2⟩:=WY r (i+1) j v h;refine⟨ω,?_⟩;have:j-i=(j-(i+1))+1:=by omega
    rw[this]
    simpa using h2
def Ps (P:Program)(f:FuncId)(args:List Value)(w:World)(S:Value->World->Prop):Prop:=
 Calls P f args.toArray w λx w'=>∃v,x= .returned v/\S v w'
def Ps.mono {P:Program}{f:FuncId}{args:List Value}{w:World}{S S':Value->World->Prop}(h:Ps P f args w S)(hs:∀v w',S v w'->S' v w'):Ps P f args w S':=
 Calls.mono h λ_ _ ⟨v,hx,hv⟩=>⟨v,hx,hs _ _ hv⟩
def za0 (P:Program)(f:FuncId)(args:List Value)(w:World)(S:Value->World->Prop):Prop:=
 CallsDIn Fence.wide 0 P f args.toArray .returning w λx u w'=>u= .returning/\∃v,x= .returned v/\S v w'
def py {P:Program}{f:FuncId}{fn:Func}{c:Code}{args:List Value}{e:Env}{w:World}{S:Value->World->Prop}{n:Nat}
  (hf:P.funcs[f]? =some fn) (hb:fn.body=some c) (hnt:fn.ntmps=n) (hn:Nat.ble args.length n=true) (he:envOf 0 args=e)
  (h:Pu ⟨P,f,S,n,none,[],false⟩ [.code c] e w):Ps P f args w S:=by
 subst hnt
 intro cs
 let b:Frame:={(default:Frame) with fn:=f,kind:= .normal,roundOf:=none}
 have hn':args.length<=fn.ntmps:=by simpa using hn
 let a:Act:={tmps:=args.toArray++Array.replicate (fn.ntmps-args.toArray.size) undef,defers:=[]}
 have henter:Frame.enter P f args.toArray .normal=b.atR a [.code c]:=by
  simp[Frame.enter,Frame.atR,hf,hb,b,a]
 have hok:WO fn.ntmps [] e a:=by
  refine⟨by simp[a];omega,rfl,λi v hi=>?_⟩;subst he;obtain⟨-,h2⟩:=WY args 0 i v hi;simp at h2
  have hlt:i<args.length:=by
   rcases Nat.lt_or_ge i args.length with h| h
   ·exact h
   ·simp[List.getElem?_eq_none h] at h2
  have h3:args[i]=v:=by simpa[List.getElem?_eq_getElem hlt] using h2
  simp only[a,Array.getD];rw[dif_pos (by simp;omega)];simp[hlt,h3]
 rw[henter]
 exact h a hok b O O O cs
def z4S {P:Program}{f:FuncId}{fn:Func}{c:Code}{args:List Value}{e:Env}{w:World}{S:Value->World->Prop}{n:Nat}
  (hf:P.funcs[f]? =some fn) (hb:fn.body=some c) (hnt:fn.ntmps=n) (hn:Nat.ble args.length n=true) (he:envOf 0 args=e)
  (h:Pu ⟨P,f,S,n,none,[],true⟩ [.code c] e w):za0 P f args w S:=by
 subst hnt
 refine⟨trivial,λc0 cs hm _=>?_⟩
 let b:Frame:={(default:Frame) with fn:=f,kind:= .deferred,roundOf:=none}
 have hn':args.length<=fn.ntmps:=by simpa using hn
 let a:Act:={tmps:=args.toArray++Array.replicate (fn.ntmps-args.toArray.size) undef,defers:=[]}
 have henter:Frame.enter P f args.toArray .deferred=b.atR a [.code c]:=by
  simp[Frame.enter,Frame.atR,hf,hb,b,a]
 have hok:WO fn.ntmps [] e a:=by
  refine⟨by simp[a];omega,rfl,λi v hi=>?_⟩;subst he;obtain⟨-,h2⟩:=WY args 0 i v hi;simp at h2
  have hlt:i<args.length:=by
   rcases Nat.lt_or_ge i args.length with h| h
   ·exact h
   ·simp[List.getElem?_eq_none h] at h2
  have h3:args[i]=v:=by simpa[List.getElem?_eq_getElem hlt] using h2
  simp only[a,Array.getD];rw[dif_pos (by simp;omega)];simp[hlt,h3]
 obtain⟨x,w',fr,hR,hc,hfn,hk,hg⟩:=h a hok b O O O (c0::cs)
 have hcc:({c0 with mode:= .returning}:Frame)=c0:=by cases c0;simp_all
 rw[henter]
 exact⟨x,.returning,w',fr,⟨rfl,hR⟩,by rw[hcc];exact comesIn_wide.2 hc,hk,hfn,hg⟩
structure Arc where
 size:Nat
 once:List Int
 often:List Int
 P9:List Int
 P6:List Int
 target:Int
def Arc.all (c:Arc):List Int:=c.once++(c.often++(c.P9++c.P6))
def Arc.held (c:Arc)(k:Int):Prop:=k∈c.once\/k∈c.often
structure Arc.Ok (c:Arc):Prop where
 pos:1<=c.size
 nd:c.all.Nodup
 held:c.once.length+c.often.length<=c.size
 first:c.once.length+c.P9.length<=c.size
 total:c.all.length<=2*c.size
 tg:0<=c.target/\c.target<=c.size
def Arc.room (c:Arc)(often:Bool):Arc×Option Int:=
 if c.once.length+c.often.length=c.size then
  match c.once,c.often with
  |[],[]=>(c,none)
  |a::o,[]=>({c with once:=o,P9:=c.P9++[a]},some a)
  |[],b::f=>({c with often:=f,P6:=c.P6++[b]},some b)
  |a::o,b::f=>if(c.once.length:Int)>c.target\/(c.once.length:Int)=c.target/\often=true then({c with once:=o,P9:=c.P9++[a]},some a) else({c with often:=f,P6:=c.P6++[b]},some b)
 else(c,none)
structure Arc.Z7 (c c':Arc)(g:Option Int):Prop where
 size:c'.size=c.size
 tg:c'.target=c.target
 perm:c'.all.Perm c.all
 z2S:c'.once.length+c'.P9.length<=c.once.length+c.P9.length
 YH:c'.once.length+c'.often.length+1<=c.size
 gone:∀x,c'.held x↔c.held x/\g≠some x
 was:∀x,g=some x->c.held x
 w1:∀x∈c.P9,x∈c'.P9
 w2:∀x∈c.P6,x∈c'.P6
def Arc.Tk {c:Arc}(h:c.Ok)(b:Bool):Arc.Z7 c (c.room b).1 (c.room b).2:=by
 have hnd:=h.nd
 have hpos:=h.pos
 unfold Arc.all at hnd
 have key1:∀{a:Int} {o:List Int},c.once=a::o->c.once.length+c.often.length=c.size->Arc.Z7 c {c with once:=o,P9:=c.P9++[a]} (some a):=fun {a o} e hf=>by
  rw[e] at hnd hf;rw[List.cons_append] at hnd;obtain⟨n1,n2⟩:=List.nodup_cons.1 hnd;simp only[List.mem_append,not_or] at n1;refine⟨rfl,rfl,?_,by simp[e];omega,by simp at hf⊢;omega,λx=>?_,λx hx=>by cases hx;exact .inl (by simp[e]),λx hx=>List.mem_append_left _ hx,λx hx=>hx⟩
  ·unfold Arc.all;rw[e];dsimp only;rw[List.cons_append]
   have:(o++(c.often++(c.P9++[a]++c.P6))).Perm (a::(o++(c.often++(c.P9++c.P6)))):=by
    have e1:o++(c.often++(c.P9++[a]++c.P6))=(o++(c.often++c.P9))++a::c.P6:=by simp
    have e2:a::(o++(c.often++(c.P9++c.P6)))=a::((o++(c.often++c.P9))++c.P6):=by simp
    rw[e1,e2];exact List.perm_middle
   exact this
  ·unfold Arc.held;dsimp only;rw[e];simp only[List.mem_cons,Option.some.injEq,ne_eq];constructor
   ·rintro(hx|hx)
    ·exact⟨.inl (.inr hx),λe=>n1.1 (e▸hx)⟩
    ·exact⟨.inr hx,λe=>n1.2.1 (e▸hx)⟩
   ·rintro⟨(hx|hx)|hx,hne⟩
    ·exact absurd hx.symm hne
    ·exact .inl hx
    ·exact .inr hx
 have key2:∀{a:Int} {o:List Int},c.often=a::o->c.once.length+c.often.length=c.size->Arc.Z7 c {c with often:=o,P6:=c.P6++[a]} (some a):=fun {a o} e hf=>by
  rw[e] at hnd hf;obtain⟨m1,m2,m3⟩:=List.nodup_append.1 hnd;rw[List.cons_append] at m2;obtain⟨n1,n2⟩:=List.nodup_cons.1 m2;simp only[List.mem_append,not_or] at n1;refine⟨rfl,rfl,?_,Nat.le_refl _,by simp at hf⊢;omega,λx=>?_,λx hx=>by cases hx;exact .inr (by simp[e]),λx hx=>hx,λx hx=>List.mem_append_left _ hx⟩
  ·unfold Arc.all;rw[e];dsimp only;have e1:c.once++(o++(c.P9++(c.P6++[a])))=(c.once++(o++(c.P9++c.P6)))++a::[]:=by simp
   have e2:c.once++(a::o++(c.P9++c.P6))=c.once++a::(o++(c.P9++c.P6)):=by simp
   rw[e1,e2];refine List.Perm.trans List.perm_middle ?_;rw[List.append_nil];exact List.perm_middle.symm
  ·unfold Arc.held;dsimp only;rw[e];simp only[List.mem_cons,Option.some.injEq,ne_eq];constructor
   ·rintro(hx|hx)
    ·exact⟨.inl hx,λe=>m3 x hx a ξ e.symm⟩
    ·exact⟨.inr (.inr hx),λe=>n1.1 (e▸hx)⟩
   ·rintro⟨hx|hx|hx,hne⟩
    ·exact .inl hx
    ·exact absurd hx.symm hne
    ·exact .inr hx
 unfold Arc.room
 split
 ·rename_i hf
  split
  ·rename_i e1 e2
   rw[e1,e2] at hf;simp at hf;omega
  ·rename_i a o e1 e2
   exact key1 e1 hf
  ·rename_i b f e1 e2
   exact key2 e2 hf
  ·rename_i a o b f e1 e2
   split
   ·exact key1 e1 hf
   ·exact key2 e2 hf
 ·rename_i hf
  exact⟨rfl,rfl,List.Perm.refl _,Nat.le_refl _,by have:=h.held;show c.once.length+c.often.length+1<=_;omega,λx=>by simp,λx hx=>(by cases hx),λx hx=>hx,λx hx=>hx⟩
structure Arc.Made (c c':Arc)(g:Option Int):Prop where
 size:c'.size=c.size
 tg:c'.target=c.target
 nd:c'.all.Nodup
 sub:∀x∈c'.all,x∈c.all
 YH:c'.once.length+c'.often.length+1<=c.size
 gone:∀x,c'.held x↔c.held x/\g≠some x
 was:∀x,g=some x->c.held x
def Arc.Z7.made {c c':Arc}{g:Option Int}(h:Arc.Z7 c c' g)(hn:c.all.Nodup):Arc.Made c c' g:=
 ⟨h.size,h.tg,h.perm.nodup_iff.2 hn,λx hx=>h.perm.mem_iff.1 hx,h.YH,h.gone,h.was⟩
def Arc.add (c:Arc):Arc×Option Int:=
 if c.once.length+c.P9.length=c.size then
  if c.once.length<c.size then({c with P9:=c.P9.drop 1}:Arc).room false else({c with once:=c.once.drop 1},c.once.head?)
 else if c.all.length<c.size then(c,none)
 else if c.all.length=2*c.size then({c with P6:=c.P6.drop 1}:Arc).room false
 else c.room false
theorem Arc.QQ (c:Arc):c.all.length=c.once.length+(c.often.length+(c.P9.length+c.P6.length)):=by simp[Arc.all]
def Arc.z39 {c:Arc}(h:c.Ok):Arc.Made c c.add.1 c.add.2/\c.add.1.once.length+c.add.1.P9.length+1<=c.size/\c.add.1.all.length+1<=2*c.size:=by
 have hpos:=h.pos
 have hnd:=h.nd
 have hh:=h.held
 have hf:=h.first
 have ht:=h.total
 have hl:=c.QQ
 have sub1:∀{a b:List Int},(a++(b.drop 1)).Sublist (a++b):=fun {a b}=>(List.drop_sublist 1 b).append_left a
 unfold Arc.add
 split
 ·rename_i e
  split
  ·rename_i hlt
   obtain⟨c0,hc0⟩:∃c0:Arc,{c with P9:=c.P9.drop 1}=c0:=⟨_,rfl⟩;have e1:c0.once=c.once:=by rw[<-hc0]
   have e2:c0.often=c.often:=by rw[<-hc0]
   have e3:c0.P9=c.P9.drop 1:=by rw[<-hc0]
   have e4:c0.size=c.size:=by rw[<-hc0]
   have e6:c0.target=c.target:=by rw[<-hc0]
   have hs:c0.all.Sublist c.all:=by
    rw[<-hc0];unfold Arc.all;dsimp only;exact(((List.drop_sublist 1 c.P9).append_right c.P6).append_left c.often).append_left c.once
   have hl0:=c0.QQ;have e5:c0.P6=c.P6:=by rw[<-hc0]
   have hwl:(c.P9.drop 1).length+1=c.P9.length:=by rw[List.length_drop];omega
   rw[e1,e2,e3,e5] at hl0;have h0:c0.Ok:=⟨ω,hnd.sublist hs,by rw[e1,e2,e4];exact hh,by rw[e1,e3,e4];omega,by rw[e4];omega,by rw[e6,e4];exact h.tg⟩;have hr:=Arc.Tk h0 false;have hm:=hr.made h0.nd;have hheld:∀x,c0.held x↔c.held x:=λx=>by unfold Arc.held;rw[e1,e2]
   rw[hc0];have hpl:=hr.perm.length_eq;have hfl:=hr.z2S;rw[e1,e3] at hfl;exact⟨⟨hm.size.trans e4,hm.tg.trans e6,hm.nd,λx hx=>hs.subset (hm.sub x hx),by rw[<-e4];exact hm.YH,λx=>by rw[hm.gone,hheld],λx hx=>(hheld x).1 (hm.was x hx)⟩,ω,ω⟩
  ·rename_i hlt
   have hw:c.P9=[]:=List.eq_nil_of_length_eq_zero ω;have ho:c.often=[]:=List.eq_nil_of_length_eq_zero ω
   obtain⟨a,o,ea⟩:∃a o,c.once=a::o:=by
    cases e':c.once with
    |nil=>rw[e'] at e hlt;simp at e hlt;omega
    |cons a o=>exact⟨a,o,rfl⟩
   have hnd':=hnd;unfold Arc.all at hnd';rw[ea,hw,ho] at hnd';simp only[List.cons_append,List.nil_append] at hnd';obtain⟨n1,n2⟩:=List.nodup_cons.1 hnd';rw[ea] at e hh hl hlt hf;simp at e hh hl hlt hf;refine⟨⟨rfl,rfl,?_,λx hx=>?_,?_,λx=>?_,λx hx=>?_⟩,?_,?_⟩
   ·unfold Arc.all;dsimp only;rw[ea,hw,ho];exact n2
   ·unfold Arc.all at hx⊢;dsimp only at hx;rw[ea,hw,ho] at hx⊢;simp at hx⊢;exact .inr hx
   ·dsimp only;rw[ea,ho];simp;omega
   ·unfold Arc.held;dsimp only;rw[ea,ho];simp;constructor
    ·intro hx;exact⟨.inr hx,λe=>n1 (by rw[e];simp[hx])⟩
    ·rintro⟨hx|hx,hne⟩
     ·exact absurd hx.symm hne
     ·exact hx
   ·rw[ea] at hx;simp at hx;unfold Arc.held;rw[ea];exact .inl (by simp[hx])
   ·dsimp only;rw[ea,hw];simp;omega
   ·rw[Arc.QQ];dsimp only;rw[ea];simp;omega
 ·rename_i e
  split
  ·rename_i hlt
   exact⟨⟨rfl,rfl,hnd,λx hx=>hx,by dsimp only;omega,λx=>by simp,λx hx=>by cases hx⟩,by dsimp only;omega,by dsimp only;omega⟩
  ·rename_i hlt
   split
   ·rename_i h2
    obtain⟨c0,hc0⟩:∃c0:Arc,{c with P6:=c.P6.drop 1}=c0:=⟨_,rfl⟩;have e1:c0.once=c.once:=by rw[<-hc0]
    have e2:c0.often=c.often:=by rw[<-hc0]
    have e3:c0.P9=c.P9:=by rw[<-hc0]
    have e4:c0.size=c.size:=by rw[<-hc0]
    have e5:c0.P6=c.P6.drop 1:=by rw[<-hc0]
    have e6:c0.target=c.target:=by rw[<-hc0]
    have hs:c0.all.Sublist c.all:=by
     rw[<-hc0];unfold Arc.all;dsimp only;exact(((List.drop_sublist 1 c.P6).append_left c.P9).append_left c.often).append_left c.once
    have hl0:=c0.QQ;have hwl:(c.P6.drop 1).length+1=c.P6.length:=by rw[List.length_drop];omega
    rw[e1,e2,e3,e5] at hl0;have h0:c0.Ok:=⟨ω,hnd.sublist hs,by rw[e1,e2,e4];exact hh,by rw[e1,e3,e4];omega,by rw[e4];omega,by rw[e6,e4];exact h.tg⟩;have hr:=Arc.Tk h0 false;have hm:=hr.made h0.nd;have hheld:∀x,c0.held x↔c.held x:=λx=>by unfold Arc.held;rw[e1,e2]
    rw[hc0];have hpl:=hr.perm.length_eq;have hfl:=hr.z2S;rw[e1,e3] at hfl;exact⟨⟨hm.size.trans e4,hm.tg.trans e6,hm.nd,λx hx=>hs.subset (hm.sub x hx),by rw[<-e4];exact hm.YH,λx=>by rw[hm.gone,hheld],λx hx=>(hheld x).1 (hm.was x hx)⟩,ω,ω⟩
   ·rename_i h2
    have hr:=Arc.Tk h false;have hm:=hr.made hnd;have hpl:=hr.perm.length_eq;have hfl:=hr.z2S;exact⟨hm,ω,ω⟩
def Arc.Rq (c:Arc)(k:Int):Arc×Bool×Option Int:=
 if k∈c.once\/k∈c.often then({c with once:=c.once.erase k,often:=c.often.erase k++[k]},true,none)
 else if k∈c.P9 then
  let r:=({c with target:=min (c.size:Int) (c.target+max 1 (((c.P6.length / c.P9.length:Nat)):Int))}:Arc).room false
  ({r.1 with P9:=r.1.P9.erase k,often:=r.1.often++[k]},false,r.2)
 else if k∈c.P6 then
  let r:=({c with target:=max 0 (c.target-max 1 (((c.P9.length / c.P6.length:Nat)):Int))}:Arc).room true
  ({r.1 with P6:=r.1.P6.erase k,often:=r.1.often++[k]},false,r.2)
 else let r:=c.add;({r.1 with once:=r.1.once++[k]},false,r.2)
structure Arc.z7f (c c':Arc)(k:Int)(b:Bool)(g:Option Int):Prop where
 ok:c'.Ok
 size:c'.size=c.size
 hit:b=true↔c.held k
 no:b=true->g=none
 held:∀x,c'.held x↔x=k\/(c.held x/\g≠some x)
 gone:∀x,g=some x->c.held x/\x≠k
def Arc.back {c r:Arc}{g:Option Int}{k:Int}(h:c.Ok)(hr:Arc.Z7 c r g)(hk:¬c.held k){w f:List Int}(hp:(w++f).Perm ((r.P9++r.P6).erase k))(hw:w.length<=r.P9.length)(hm:k∈r.P9++r.P6):
  Arc.z7f c {r with P9:=w,P6:=f,often:=r.often++[k]} k false g:=by
 have hm':=hr.made h.nd
 have hp2:(r.once++((r.often++[k])++(w++f))).Perm r.all:=by
  unfold Arc.all;rw[List.append_assoc];refine List.Perm.append_left _$ List.Perm.append_left _ ?_;exact(hp.cons k).trans (List.perm_cons_erase hm).symm
 have hheld:=hr.YH
 have hpl:=hr.perm.length_eq
 have ht:=h.total
 refine⟨⟨by dsimp only;rw[hr.size];exact h.pos,hp2.nodup_iff.2 hm'.nd,by dsimp only;rw[hr.size,List.length_append];simp;omega,by have:=hr.z2S;have:=h.first;dsimp only;rw[hr.size];omega,by have:=hp2.length_eq;unfold Arc.all at this hpl⊢;dsimp only;rw[hr.size,this,hpl];exact ht,by dsimp only;rw[hr.tg,hr.size];exact h.tg⟩,hr.size,⟨λe=>(by cases e),λe=>absurd e hk⟩,λe=>(by cases e),λx=>?_,λx hx=>⟨hr.was x hx,λe=>hk (e▸hr.was x hx)⟩⟩
 have hg:=hr.gone x
 unfold Arc.held at hg⊢
 dsimp only
 simp only[List.mem_append,List.mem_singleton]
 constructor
 ·rintro(hx|hx|hx)
  ·exact .inr (hg.1 (.inl hx))
  ·exact .inr (hg.1 (.inr hx))
  ·exact .inl hx
 ·rintro(hx|hx)
  ·exact .inr (.inr hx)
  ·rcases hg.2 hx with hx|hx
   ·exact .inl hx
   ·exact .inr (.inl hx)
def Arc.z1a {c:Arc}(h:c.Ok)(k:Int):Arc.z7f c (c.Rq k).1 k (c.Rq k).2.1 (c.Rq k).2.2:=by
 have hpos:=h.pos
 have hnd:=h.nd
 have hnd':=hnd
 unfold Arc.all at hnd'
 obtain⟨a1,a2,a3⟩:=List.nodup_append.1 hnd'
 obtain⟨b1,b2,b3⟩:=List.nodup_append.1 a2
 obtain⟨d1,d2,d3⟩:=List.nodup_append.1 b2
 unfold Arc.Rq
 split
 ·rename_i hk
  have hp:(c.once.erase k++((c.often.erase k++[k])++(c.P9++c.P6))).Perm c.all:=by
   unfold Arc.all;have e1:c.once.erase k++((c.often.erase k++[k])++(c.P9++c.P6))=(c.once.erase k++c.often.erase k)++k::(c.P9++c.P6):=by simp
   rw[e1];refine List.perm_middle.trans ?_;rw[<-List.cons_append,show c.once++(c.often++(c.P9++c.P6))=(c.once++c.often)++(c.P9++c.P6) by simp];refine List.Perm.append_right _ ?_;rcases hk with hk|hk
   ·have hn:k∉c.often:=λe=>a3 k hk k (by simp[e]) O;rw[List.erase_of_not_mem hn,<-List.cons_append];exact(List.perm_cons_erase hk).symm.append_right _
   ·have hn:k∉c.once:=λe=>a3 k e k (by simp[hk]) O;rw[List.erase_of_not_mem hn];exact(List.perm_middle.symm.trans ((List.perm_cons_erase hk).symm.append_left _))
  have hlen:(c.once.erase k).length+(c.often.erase k++[k]).length=c.once.length+c.often.length:=by
   rcases hk with hk|hk
   ·have hn:k∉c.often:=λe=>a3 k hk k (by simp[e]) O;have:=List.length_pos_of_mem hk;rw[List.erase_of_not_mem hn,List.length_erase_of_mem hk,List.length_append];simp;omega
   ·have hn:k∉c.once:=λe=>a3 k e k (by simp[hk]) O;have:=List.length_pos_of_mem hk;rw[List.erase_of_not_mem hn,List.length_append,List.length_erase_of_mem hk];simp;omega
  have hle:(c.once.erase k).length<=c.once.length:=List.length_erase_le;refine⟨⟨hpos,hp.nodup_iff.2 hnd,by dsimp only;rw[hlen];exact h.held,by have:=h.first;dsimp only;omega,by have:=hp.length_eq;unfold Arc.all at this⊢;dsimp only;rw[this];exact h.total,h.tg⟩,rfl,⟨λ_=>hk,λ_=>rfl⟩,λ_=>rfl,λx=>?_,λx hx=>by cases hx⟩;unfold Arc.held;dsimp only;simp only[List.mem_append,List.mem_singleton];constructor
  ·rintro(hx|hx|hx)
   ·exact .inr ⟨.inl (List.mem_of_mem_erase hx),ξ⟩
   ·exact .inr ⟨.inr (List.mem_of_mem_erase hx),ξ⟩
   ·exact .inl hx
  ·rintro(hx|⟨hx|hx,-⟩)
   ·exact .inr (.inr hx)
   ·by_cases e:x=k
    ·exact .inr (.inr e)
    ·exact .inl ((List.mem_erase_of_ne e).2 hx)
   ·by_cases e:x=k
    ·exact .inr (.inr e)
    ·exact .inr (.inl ((List.mem_erase_of_ne e).2 hx))
 ·rename_i hk
  simp only[not_or] at hk;have hkh:¬c.held k:=by unfold Arc.held;simp[hk]
  split
  ·rename_i hw
   obtain⟨c0,hc0⟩:∃c0:Arc,{c with target:=min (c.size:Int) (c.target+max 1 (((c.P6.length / c.P9.length:Nat)):Int))}=c0:=⟨_,rfl⟩;have h0:c0.Ok:=by rw[<-hc0];have:=h.tg;exact⟨h.pos,h.nd,h.held,h.first,h.total,by dsimp only;omega⟩
   have hr:=Arc.Tk h0 false;rw[hc0];have hkw:k∈(c0.room false).1.P9:=hr.w1 k (by rw[<-hc0];exact hw);have:=Arc.back h0 hr (k:=k) (by rw[<-hc0];exact hkh) (w:=(c0.room false).1.P9.erase k) (f:=(c0.room false).1.P6) (by rw[List.erase_append_left _ hkw]) List.length_erase_le (List.mem_append_left _ hkw);dsimp only;refine⟨this.ok,this.size.trans (by rw[<-hc0]),by rw[this.hit,<-hc0];exact Iff.rfl,this.no,λx=>by rw[this.held,<-hc0];exact Iff.rfl,λx hx=>by have:=this.gone x hx;rw[<-hc0] at this;exact this⟩
  ·rename_i hw
   split
   ·rename_i hw2
    obtain⟨c0,hc0⟩:∃c0:Arc,{c with target:=max 0 (c.target-max 1 (((c.P9.length / c.P6.length:Nat)):Int))}=c0:=⟨_,rfl⟩;have h0:c0.Ok:=by rw[<-hc0];have:=h.tg;exact⟨h.pos,h.nd,h.held,h.first,h.total,by dsimp only;omega⟩
    have hr:=Arc.Tk h0 true;rw[hc0];have hkw:k∈(c0.room true).1.P6:=hr.w2 k (by rw[<-hc0];exact hw2);have hnd2:=(hr.made h0.nd).nd
    have hkn:k∉(c0.room true).1.P9:=λe=>by
     unfold Arc.all at hnd2;obtain⟨-,x2,-⟩:=List.nodup_append.1 hnd2;obtain⟨-,y2,-⟩:=List.nodup_append.1 x2;obtain⟨-,-,z3⟩:=List.nodup_append.1 y2;exact z3 k e k hkw O
    have:=Arc.back h0 hr (k:=k) (by rw[<-hc0];exact hkh) (w:=(c0.room true).1.P9) (f:=(c0.room true).1.P6.erase k) (by rw[List.erase_append_right _ hkn]) (Nat.le_refl _) (List.mem_append_right _ hkw);dsimp only;refine⟨this.ok,this.size.trans (by rw[<-hc0]),by rw[this.hit,<-hc0];exact Iff.rfl,this.no,λx=>by rw[this.held,<-hc0];exact Iff.rfl,λx hx=>by have:=this.gone x hx;rw[<-hc0] at this;exact this⟩
   ·rename_i hw2
    obtain⟨hm,hf,ht⟩:=Arc.z39 h;obtain⟨r,hr⟩:∃r,c.add=r:=⟨_,rfl⟩;rw[hr] at hm hf ht;rw[hr];dsimp only
    have hkn:k∉r.1.all:=λe=>by
     have:=hm.sub k e;unfold Arc.all at this;simp[hk.1,hk.2,hw,hw2] at this
    have hp:(r.1.once++[k]++(r.1.often++(r.1.P9++r.1.P6))).Perm (k::r.1.all):=by
     unfold Arc.all;rw[List.append_assoc];exact List.perm_middle
    have hl:=r.1.QQ;have hheld:=hm.YH;refine⟨⟨by dsimp only;rw[hm.size];exact hpos,hp.nodup_iff.2 (List.nodup_cons.2 ⟨hkn,hm.nd⟩),by dsimp only;rw[hm.size,List.length_append];simp;omega,by dsimp only;rw[hm.size,List.length_append];simp;omega,by have:=hp.length_eq;unfold Arc.all at this⊢;dsimp only;rw[hm.size,this];simp[Arc.all] at ht⊢;omega,by dsimp only;rw[hm.tg,hm.size];exact h.tg⟩,hm.size,⟨λe=>(by cases e),λe=>absurd e (by unfold Arc.held;simp[hk])⟩,λe=>(by cases e),λx=>?_,λx hx=>⟨hm.was x hx,λe=>by have:=hm.was x hx;rw[e] at this;exact absurd this (by unfold Arc.held;simp[hk])⟩⟩;have hg:=hm.gone x;unfold Arc.held at hg⊢;dsimp only;simp only[List.mem_append,List.mem_singleton];constructor
    ·rintro((hx|hx)|hx)
     ·exact .inr (hg.1 (.inl hx))
     ·exact .inl hx
     ·exact .inr (hg.1 (.inr hx))
    ·rintro(hx|hx)
     ·exact .inl (.inr hx)
     ·rcases hg.2 hx with hx|hx
      ·exact .inl (.inl hx)
      ·exact .inr hx
def wantE (ops:List Oper)(e:Env):Option (Nat×Bool)->Option Bool
 |none=>some true
 | some (j, b) => match ops[j]? with
   |none=>none
   | some oj => match oj.dst with
     |none=>none
     | some d => match fnd e d with
       |some (.bool c)=>some (match b with|true=>c|false=>!c)
       |some (.tuple _)=>some false
       |_=>none
def z6X {n:Nat}{ms:List Dfr}{ops:List Oper}{e:Env}{a:Act}{o:Oper}{t:Bool}(ha:WO n ms e a)(hn:∀(j:Nat) (oj:Oper) (d:Nat),ops[j]? =some oj->oj.dst=some d->Nat.blt d n=true)
  (h:wantE ops e o.guard=some t):Region.wanted o (yielded ops.toArray a.tmps)=t:=by
 unfold Region.wanted
 cases hg:o.guard with
 |none=>rw[hg] at h;simp[wantE] at h;simp[h]
 | some p =>
   obtain⟨j,b⟩:=p;rw[hg] at h;simp only[wantE] at h;split at h
   ·cases h
   ·rename_i oj hj
    split at h
    ·cases h
    ·rename_i d hd
     have hdn:d<n:=by simpa using hn j oj d hj hd
     have hget:∀v,fnd e d=some v->a.tmps[d]? =some v:=λv hv=>by
      have h1:=ha.get d v hv;have h2:d<a.tmps.size:=by rw[ha.size];exact hdn
      rw[Array.getElem?_eq_getElem h2]
      simpa[Array.getD,h2] using h1
     split at h
     ·rename_i c hc
      have:=hget _ hc;simp only[yielded,List.getElem?_toArray,hj,Option.bind_some,hd,this];cases b<;>cases c<;>simp_all
     ·rename_i hc
      have:=hget _ hc;simp only[yielded,List.getElem?_toArray,hj,Option.bind_some,hd,this]
      simp_all
     ·cases h
def RT (n:Nat)(ops:List Oper):Bool:=ops.all λo=>match o.dst with|some d=>Nat.blt d n|none=>true
def z5o {n:Nat}{ops:List Oper}(h:RT n ops=true):∀(j:Nat) (oj:Oper) (d:Nat),ops[j]? =some oj->oj.dst=some d->Nat.blt d n=true:=λj oj d hj hd=>by
 have:=List.all_eq_true.1 h oj (List.mem_of_getElem? hj)
 simpa[hd] using this
def Y (P:Program)(e:Env)(o:Oper)(v:Value)(w w':World):Prop:=
 ∀ρ:Operand->Value,(∀x v,look e x=some v->ρ x=v)->(execOp ρ o).run P w= .ok (.value v) w'
def Z (P:Program)(e:Env)(o:Oper)(w w':World):Prop:=
 ∀ρ:Operand->Value,(∀x v,look e x=some v->ρ x=v)->(execOp ρ o).run P w= .ok .skip w'
def Yc (P:Program)(e:Env)(o:Oper)(f:FuncId)(args:List Value)(w:World):Prop:=
 ∀ρ:Operand->Value,(∀x v,look e x=some v->ρ x=v)->(execOp ρ o).run P w= .ok (.enter f args.toArray) w
def z1c {rd:Option Nat}{n:Nat}{P:Program}{f:FuncId}{args:Array Value}{w:World}{R:Ending->World->Prop}(h:Calls P f args w R):CallsIn (WF rd) n P f args w R:=
 (callsIn_wide (n:=n)).2 h
def YL {rd:Option Nat}:(WF rd).depth.isSome=true->1<=0:=λh=>by cases h
theorem Um {P:Program}{rd:Option Nat}{ρ:Operand->Value}{o:Oper}{w w':World}{x:Next}(h:(execOp ρ o).run P w= .ok x w')(hx:∀d,x≠ .defer d):(o.semAt rd ρ).run P w= .ok x w':=by
 unfold Oper.semAt
 split
 ·rename_i l c ho
  exfalso;simp only[execOp,ho,Sem.run_bind] at h
  cases hr:(resolve ρ c o.type).run P w with
  | ok d w1 =>
    rw[hr] at h;simp only[Result.andThen,Sem.run_pure,Result.ok.injEq] at h
    exact hx d h.1.symm
  | halt y w1 =>
    rw[hr] at h;simp[Result.andThen] at h
 ·exact h
def calm (ops:List Oper):Bool:=ops.all λo=>match o.op with| .defer _=>false|_=>true
def z5G {P:Program}{rd:Option Nat}{o:Oper}{a:Act}{w:World}{K:Act->World->Prop}{Q:Exit->Act->World->Prop}(hc:∀c,o.op≠ .defer c)(h:o.wp P a w K Q):o.wpIn (WF rd) 0 P a w K Q:=by
 refine⟨λ_ _=>trivial,?_⟩
 rw[Oper.semAt_eq _ _ _ hc]
 unfold Oper.wp at h
 generalize (execOp a.eval o).run P w=r at h⊢
 cases r with
 | ok x w' =>
   cases x<;>simp only[Oper.upon,Oper.uponIn] at h⊢<;>
    first
     |exact h
     |exact h.elim
     |exact⟨YL,z1c h⟩
     |exact⟨YL,λc cs _=>let ⟨v,w',hR,hs⟩:=h c cs;⟨v,w',hR,stepsIn_wide.2 hs⟩⟩
 |halt x w'=>cases x<;>simp only[Oper.upon,Oper.uponIn] at h⊢<;>exact h
def AtR (P:Program)(ops:Array Oper)(Q:Exit->Act->World->Prop)(i:Nat)(K:Act->World->Prop)(a:Act)(w:World):Prop:=
 wpOp P ops Q i K a w\/∃o,ops[i]? =some o/\Region.wanted o (yielded ops a.tmps)=true/\∃l f tmps as1 bd,(execOp a.eval o).run P w= .ok (.round l f tmps as1 bd) w/\
  RoundIn Fence.wide 0 P l f tmps as1 bd w λe w''=>∃v,e= .returned v/\K (a.put o.dst v) w''
def AtR.mono {P:Program}{ops:Array Oper}{Q:Exit->Act->World->Prop}{i:Nat}{K K':Act->World->Prop}{a:Act}{w:World}(hK:∀a w,K a w->K' a w)(h:AtR P ops Q i K a w):AtR P ops Q i K' a w:=by
 rcases h with h|⟨o,ho,hw,l,f,tm,as1,bd,hr,hR⟩
 ·exact .inl (wpOp_mono hK h)
 ·exact .inr ⟨o,ho,hw,l,f,tm,as1,bd,hr,hR.mono λe w' ⟨v,he,hv⟩=>⟨v,he,hK _ _ hv⟩⟩
def Ux (P:Program)(ops:Array Oper)(Q:Exit->Act->World->Prop)(S:World->Prop):Nat->Array Bool->Act->World->Prop
 |0,listed,a,w=>Region.ready .any ops listed=[]/\Q .normal a w
 | n + 1, listed, a, w => (Region.ready .any ops listed = [] -> Q .normal a w) /\
     ∀i∈Region.ready .any ops listed,AtR P ops Q i (λa' w'=>S w'/\Ux P ops Q S n (listed.setIfInBounds i true) a' w') a w
def z6n {P:Program}{rd:Option Nat}{ops:List Oper}{Q:Exit->Act->World->Prop}{K K':Act->World->Prop}{i:Nat}{a:Act}{w:World}(hc:calm ops=true)(hno:¬LetsOut Q)(hK:∀a w,K a w->K' a w)
  (h:AtR P ops.toArray Q i K a w):wpOpIn (WF rd) 0 P ops.toArray Q i K' a w:=by
 rcases h with h2|⟨o,ho,hw,l,f,tm,as1,bd,hr,hR⟩
 ·unfold wpOp at h2;unfold wpOpIn
  cases ho:ops.toArray[i]? with
  | none =>
    rw[ho] at h2
    exact hK _ _ h2
  | some o =>
    rw[ho] at h2
    have hcm:∀c,o.op≠ .defer c:=λc hh=>by
     have hm:=List.all_eq_true.1 hc o (List.mem_of_getElem? (by simpa using ho));rw[hh] at hm;cases hm
    by_cases hw:Region.wanted o (yielded ops.toArray a.tmps)=true
    ·simp only[hw,if_true] at h2⊢;rcases h2 with h2|h2
     ·exact Oper.wpIn_mono hK (z5G hcm h2)
     ·exact absurd h2.2 hno
    ·simp only[hw] at h2⊢;exact⟨λ_ _=>trivial,hK _ _ h2⟩
 ·unfold wpOpIn;simp only[ho,hw,if_true];refine⟨λ_ _=>trivial,?_⟩;rw[Um hr (λ_ h=>by cases h)];refine⟨YL,?_⟩
  have hR':RoundIn Fence.wide 0 P l f tm as1 bd w fun
    | .returned v,w''=>K' (a.put o.dst v) w''
    | .panicked chain,w''=>Q (.panic chain) a w''
    | .outgrown,_=>LetsOut Q:=hR.mono λe w' ⟨v,he,hv⟩=>by subst he;exact hK _ _ hv
  exact hR'
def W5 {P:Program}{rd:Option Nat}{ops:List Oper}{Q:Exit->Act->World->Prop}{S:World->Prop}(hc:calm ops=true)(hno:¬LetsOut Q):∀(fuel:Nat) (listed:Array Bool) (a:Act) (w:World),
  Ux P ops.toArray Q S fuel listed a w->wpAnyIn (WF rd) 0 P .any ops.toArray Q fuel listed a w
 |0,_,_,_,h=>h
 |fuel+1,_,_,_,h=>⟨h.1,λi hi=>z6n hc hno (λ_ _ hh=>W5 hc hno fuel _ _ _ hh.2) (h.2 i hi)⟩
section
variable {P:Program}{ops:Array Oper}{Q:Exit->Act->World->Prop}{S:World->Prop}
def z0o {j:Nat}{oi oj:Oper}{v:Value}{K:Act->World->Prop}{a:Act}{w:World}(hj:ops[j]? =some oj)(hap:oi.apart ops oj=true)(hsi:∀cs b,oi.op≠ .select cs b)(hsj:∀cs b,oj.op≠ .select cs b)
  (hQ:∀c a w,Q (.panic c) (a.put oi.dst v) w->Q (.panic c) a w) (hy:YieldsIf P ops S oi v a) (h:AtR P ops Q j K (a.put oi.dst v) w):AtR P ops Q j (λa' w'=>YieldsIf P ops S oi v a'/\K (a'.put oi.dst v) w') a w:=by
 rcases h with h|⟨o,ho,hw,l,f,tm,as1,bd,hr,hR⟩
 ·exact .inl (wpOp_putIf hj hap hsi hsj hQ hy h)
 ·obtain rfl:oj=o:=by rw[hj] at ho;exact Option.some.inj ho
  obtain⟨h1,h2,h3⟩:=Oper.apart_spec hap;rw[wanted_put oj a oi.dst v h1] at hw;rw[execOp_put oj hsj a oi.dst v h1] at hr;exact .inr ⟨oj,hj,hw,l,f,tm,as1,bd,hr,hR.mono λe w' ⟨u,he,hK⟩=>⟨u,he,hy.of_same (execOp_put oi hsi a oj.dst u h3) (wanted_put oi a oj.dst u h3),by rw[<-Act.put_comm a v u h2];exact hK⟩⟩
def TL {i:Nat}{o:Oper}{v:Value}{a:Act}{w:World}{K:Act->World->Prop}(hi:ops[i]? =some o)(hy:YieldsIf P ops S o v a)(hS:S w)(h:K (a.put o.dst v) w):AtR P ops Q i K a w:= .inl (hy.wpOp hi hS h)
def ZH {i:Nat}{oi:Oper}{v:Value}(hi:ops[i]? =some oi)(hsel:∀(j:Nat) (o:Oper) cs b,ops[j]? =some o->o.op≠ .select cs b)(hQ:∀c a w,Q (.panic c) (a.put oi.dst v) w->Q (.panic c) a w):∀(n:Nat) (listed:Array Bool) (a:Act) (w:World),
  (∀j oj,ops[j]? =some oj->j≠i->listed.getD j true=false->(∀e∈oj.after,Region.binds .any e=true->e.on≠i)->oi.apart ops oj=true)->i∈Region.ready .any ops listed->YieldsIf P ops S oi v a->S w->
  Ux P ops Q S n (listed.setIfInBounds i true) (a.put oi.dst v) w->Ux P ops Q S (n+1) listed a w:=by
 intro n
 induction n with
 | zero =>
   intro listed a w _ hr hy hS H;constructor
   ·intro h0;rw[h0] at hr;cases hr
   ·intro j hj;by_cases e:j=i
    ·subst e;exact TL hi hy hS ⟨hS,H⟩
    ·exact absurd (ready_mono hj e) (by rw[H.1];exact List.not_mem_nil)
 | succ n ih =>
   intro listed a w hap hr hy hS H;constructor
   ·intro h0;rw[h0] at hr;cases hr
   ·intro j hj;by_cases e:j=i
    ·subst e;exact TL hi hy hS ⟨hS,H⟩
    ·obtain⟨hun,oj,hoj,hall⟩:=mem_ready.1 hj;have hni:listed.getD i true=false:=(mem_ready.1 hr).1
     have hwait:∀x∈oj.after,Region.binds .any x=true->x.on≠i:=λx hx hb heq=>by
      have h1:=hall x hx hb;rw[heq] at h1;by_cases hlt:i<listed.size
      ·simp[hlt] at hni h1;rw[hni] at h1;cases h1
      ·simp[Array.getElem?_eq_none (by omega:listed.size<=i)] at h1
     have h2:=z0o hoj (hap j oj hoj e hun hwait) (λcs b=>hsel i oi cs b hi) (λcs b=>hsel j oj cs b hoj) hQ hy (H.2 j (ready_mono hj e));refine AtR.mono (λa' w' h3=>⟨h3.2.1,?_⟩) h2;refine ih (listed.setIfInBounds j true) a' w' (λm om hm hmi hmu hno=>?_) (ready_mono hr (Ne.symm e)) h3.1 h3.2.1 ?_
     ·refine hap m om hm hmi ?_ hno;by_cases hjm:j=m
      ·subst hjm;exact hun
      ·rw[getD_set_ne true hjm] at hmu;exact hmu
     ·rw[Array.setIfInBounds_comm _ _ e];exact h3.2.2
def z0H {i:Nat}{oi:Oper}{v:Value}{fuel:Nat}{listed:Array Bool}{a:Act}{w:World}(hi:ops[i]? =some oi)(hs:Region.noSelect ops=true)(hf:Region.free .any ops listed i=true)(hr:(Region.ready .any ops listed).contains i=true)
  (hQ:∀c a w,Q (.panic c) (a.put oi.dst v) w->Q (.panic c) a w) (hy:YieldsIf P ops S oi v a) (hS:S w) (h:Ux P ops Q S fuel (listed.setIfInBounds i true) (a.put oi.dst v) w):Ux P ops Q S (fuel+1) listed a w:=
 ZH hi (Region.noSelect_spec hs) hQ fuel listed a w (Region.free_spec hi hf) (by simpa using hr) hy hS h
def z2f {rs:List Nat}{fuel:Nat}{listed:Array Bool}{a:Act}{w:World}(hr:Region.ready .any ops listed=rs)(hne:rs≠[])(h:∀i∈rs,AtR P ops Q i (λa' w'=>S w'/\Ux P ops Q S fuel (listed.setIfInBounds i true) a' w') a w):Ux P ops Q S (fuel+1) listed a w:=
 ⟨λh0=>absurd (hr▸h0) hne,hr▸h⟩
def z6h {listed:Array Bool}{a:Act}{w:World}(hr:Region.ready .any ops listed=[])(h:Q .normal a w):∀fuel,Ux P ops Q S fuel listed a w
 |0=>⟨hr,h⟩
 |_+1=>⟨λ_=>h,by rw[hr];simp⟩
end
structure RC where
 C:Cx
 ops:List Oper
 k:List Item
 ok:RT C.n ops=true
def RL (D:RC)(l:List Oper)(e:Env)(w:World):Prop:=∀a,WO D.C.n D.C.ms e a->wpListIn (WF D.C.rd) 0 D.C.P D.ops.toArray (QK D.C D.k) l a w
def OQ {C:Cx}{id:Nat}{ops:List Oper}{k:List Item}{e:Env}{w:World}(ho:RT C.n ops=true)(h:RL ⟨C,ops,k,ho⟩ ops e w):Pu C (.code (.region id ops.toArray false)::k) e w:=
 λa ha=>YJ (wpIn_region_lit (h a ha))
def okg (ops:List Oper)(e:Env)(t:Bool):Option (Nat×Bool)->Bool
 |none=>t
 |some p=>match wantE ops e (some p),t with|some true,true=>true|some false,false=>true|_,_=>false
def Sg (D:RC)(e:Env)(g:Option (Nat×Bool))(t:Bool):Bool:=okg D.ops e t g
def RX {D:RC}{e:Env}{o:Oper}{t:Bool}{a:Act}(ha:WO D.C.n D.C.ms e a)(h:Sg D e o.guard t=true):Region.wanted o (yielded D.ops.toArray a.tmps)=t:=by
 refine z6X ha (z5o D.ok) ?_
 unfold Sg okg at h
 split at h
 ·rename_i hg
  rw[hg];simp only[wantE];rw[h]
 ·rename_i p hg
  rw[hg];split at h
  ·rename_i hw;exact hw
  ·rename_i hw;exact hw
  ·cases h
section
variable {D:RC}{l:List Oper}{e:Env}{w w':World}{d:Nat}{op:Op}{ty:TypeId}{pos:String}{aft:Array Edge}{g:Option (Nat×Bool)}
def OJ (h:Pu D.C D.k e w):RL D [] e w:=λa ha=>h a ha
def wpList_want {F:Fence}{n:Nat}{P:Program}{ops:Array Oper}{Q:Exit->Act->World->Prop}{a:Act}{w:World}{rest:List Oper}{o:Oper}(hw:Region.wanted o (yielded ops a.tmps)=true)
  (h:o.wpIn F n P a w (wpListIn F n P ops Q rest) Q):wpListIn F n P ops Q (o::rest) a w:=by
 simp only[wpListIn,hw,if_true];exact h
def Vd {v:Value}(ho:Sg D e g true=true)(hd:Nat.blt d D.C.n=true)(hy:Y D.C.P e ⟨some d,op,ty,pos,aft,g⟩ v w w')(h:RL D l ((d,v)::e) w'):
  RL D (⟨some d,op,ty,pos,aft,g⟩::l) e w:=λa ha=>by
 refine wpList_want (RX ha ho) ⟨λ_ _=>trivial,?_⟩
 have:=hy a.eval (λx v hx=>ha.look hx)
 rw[Um this (λ_ h=>by cases h)]
 exact h _ (ha.put hd v)
def ziq {v:Value}(ho:Sg D e g true=true)(hy:Y D.C.P e ⟨none,op,ty,pos,aft,g⟩ v w w')(h:RL D l e w'):
  RL D (⟨none,op,ty,pos,aft,g⟩::l) e w:=λa ha=>by
 refine wpList_want (RX ha ho) ⟨λ_ _=>trivial,?_⟩
 have:=hy a.eval (λx v hx=>ha.look hx)
 rw[Um this (λ_ h=>by cases h)]
 exact h _ (ha.zdf v)
def zjG (ho:Sg D e g true=true)(hy:Z D.C.P e ⟨none,op,ty,pos,aft,g⟩ w w')(h:RL D l e w'):
  RL D (⟨none,op,ty,pos,aft,g⟩::l) e w:=λa ha=>by
 refine wpList_want (RX ha ho) ⟨λ_ _=>trivial,?_⟩
 have:=hy a.eval (λx v hx=>ha.look hx)
 rw[Um this (λ_ h=>by cases h)]
 exact h _ (ha.zdf undef)
def zhI (ho:Sg D e g false=true)(hd:Nat.blt d D.C.n=true)(h:RL D l ((d,undef)::e) w):RL D (⟨some d,op,ty,pos,aft,g⟩::l) e w:=λa ha=>by
 have hw:=RX (o:=⟨some d,op,ty,pos,aft,g⟩) ha ho
 simp only[wpListIn,hw]
 exact⟨λ_ _=>trivial,h _ (ha.put hd undef)⟩
def Qw {f:FuncId}{args:List Value}{S:Value->World->Prop}(ho:Sg D e g true=true)(hd:Nat.blt d D.C.n=true)(hy:Yc D.C.P e ⟨some d,op,ty,pos,aft,g⟩ f args w)
  (hc:Ps D.C.P f args w S) (h:∀v w',S v w'->RL D l ((d,v)::e) w'):RL D (⟨some d,op,ty,pos,aft,g⟩::l) e w:=λa ha=>by
 refine wpList_want (RX ha ho) ⟨λ_ _=>trivial,?_⟩
 have:=hy a.eval (λx v hx=>ha.look hx)
 rw[Um this (λ_ h=>by cases h)]
 exact⟨YL,z1c (Calls.mono hc λx w' ⟨v,hx,hv⟩=>by subst hx;exact h v w' hv _ (ha.put hd v))⟩
theorem zaz {f:FuncId}{cap args:List Value}(hrd:D.C.rd=none)(ho:Sg D e g true=true)
  (hy:∀ρ:Operand->Value,(∀x v,look e x=some v->ρ x=v)->(execOp ρ ⟨none,op,ty,pos,aft,g⟩).run D.C.P w= .ok (.defer (Dfr.d (.call f cap args))) w)
  (h:RL ⟨{D.C with ms:= .call f cap args::D.C.ms},D.ops,D.k,D.ok⟩ l e w):RL D (⟨none,op,ty,pos,aft,g⟩::l) e w:=λa ha=>by
 refine wpList_want (RX ha ho) ⟨λ_ _=>trivial,?_⟩
 have:=hy a.eval (λx v hx=>ha.look hx)
 rw[show(WF D.C.rd).round=none from hrd,Oper.semAt_none,this]
 exact h _ ⟨ha.size,by show Dfr.d _::a.defers=_;rw[ha.defers];rfl,ha.get⟩
def Su {p:Prop}[hp:Decidable p](ht:p->RL D l ((d,.bool true)::e) w)(hf:¬p->RL D l ((d,.bool false)::e) w):RL D l ((d,.bool (decide p))::e) w:=by
 by_cases h:p
 ·simp only[h,decide_true];exact ht h
 ·simp only[h,decide_false];exact hf h
def zgP {p:Prop}[hp:Decidable p](h:p)(hr:RL D l ((d,.bool true)::e) w):RL D l ((d,.bool (decide p))::e) w:=by
 simp only[h,decide_true];exact hr
def zeC {p:Prop}[hp:Decidable p](h:¬p)(hr:RL D l ((d,.bool false)::e) w):RL D l ((d,.bool (decide p))::e) w:=by
 simp only[h,decide_false];exact hr
end
def PI {C:Cx}{i:Item}{k:List Item}{e:Env}{w:World}(J:Env->World->Prop)(hk:∀e w,J e w->Pu C k e w)(h:(∀e w,J e w->Pu C k e w)->Pu C (i::k) e w):Pu C (i::k) e w:=h hk
def SN {C:Cx}{i:Item}{id:Nat}{k:List Item}{e:Env}{w:World}(J:Env->World->Prop)(hk:∀e w,J e w->Pu C k e w)(h:(∀e w,J e w->Pu C k e w)->Pu C (i:: .inBlock id::k) e w):Pu C (i:: .inBlock id::k) e w:=h hk
/-! ### A region that draws its order: 'S' holds of the world all through. -/
def RH (D:RC)(S:World->Prop)(fuel:Nat)(listed:Array Bool)(e:Env)(w:World):Prop:=
 ∀a,WO D.C.n D.C.ms e a->Ux D.C.P D.ops.toArray (QK D.C D.k) S fuel listed a w
def z4d {C:Cx}{id:Nat}{ops:List Oper}{k:List Item}{e:Env}{w:World}(S:World->Prop)(hm:C.P.follows .mixedOrders=true)
  (ho:RT C.n ops=true) (h:RH ⟨C,ops,k,ho⟩ S ops.length (Array.replicate ops.length false) e w.drew) (hc:calm ops=true:=by rfl):Pu C (.code (.region id ops.toArray true)::k) e w:=
 λa ha=>YJ (wpIn_region_any hm (W5 hc QK.no _ _ _ _ (by simpa using h a ha)))
def RQ (ops:List Oper)(listed:Array Bool)(rs:List Nat):Bool:=Region.ready .any ops.toArray listed==rs
def SB (ops:List Oper)(listed:Array Bool)(i:Nat):Bool:=Region.noSelect ops.toArray&&Region.free .any ops.toArray listed i&&(Region.ready .any ops.toArray listed).contains i
section
variable {D:RC}{S:World->Prop}{e:Env}{w w':World}{d i fuel:Nat}{op:Op}{ty:TypeId}{pos:String}{aft:Array Edge}{g:Option (Nat×Bool)}{listed:Array Bool}
def zjq (hr:RQ D.ops listed []=true)(h:Pu D.C D.k e w):RH D S fuel listed e w:=λa ha=>z6h (by simpa[RQ] using hr) (h a ha) _
def Ud {ops:List Oper}(h:SB ops listed i=true):Region.noSelect ops.toArray=true/\Region.free .any ops.toArray listed i=true/\(Region.ready .any ops.toArray listed).contains i=true:=by
 simp only[SB,Bool.and_eq_true] at h
 exact⟨h.1.1,h.1.2,h.2⟩
def za8 {v:Value}(hi:D.ops[i]? =some ⟨some d,op,ty,pos,aft,g⟩)(hf:SB D.ops listed i=true)(ho:Sg D e g true=true)(hd:Nat.blt d D.C.n=true)
  (hy:∀w,S w->Y D.C.P e ⟨some d,op,ty,pos,aft,g⟩ v w w) (hS:S w) (h:RH D S fuel (listed.setIfInBounds i true) ((d,v)::e) w):RH D S (fuel+1) listed e w:=λa ha=>by
 obtain⟨h1,h2,h3⟩:=Ud hf
 exact z0H (v:=v) (by simpa using hi) h1 h2 h3 (λ_ _ _ h=>h) (.inl ⟨RX ha ho,λw hw=>hy w hw a.eval (λx v hx=>ha.look hx)⟩) hS (h _ (ha.put hd v))
def zjg (hi:D.ops[i]? =some ⟨some d,op,ty,pos,aft,g⟩)(hf:SB D.ops listed i=true)(ho:Sg D e g false=true)(hd:Nat.blt d D.C.n=true)
  (hS:S w) (h:RH D S fuel (listed.setIfInBounds i true) ((d,undef)::e) w):RH D S (fuel+1) listed e w:=λa ha=>by
 obtain⟨h1,h2,h3⟩:=Ud hf
 exact z0H (v:=undef) (by simpa using hi) h1 h2 h3 (λ_ _ _ h=>h) (.inr ⟨RX ha ho,rfl⟩) hS (h _ (ha.put hd undef))
def Nx (D:RC)(S:World->Prop)(fuel:Nat)(listed:Array Bool)(e:Env)(w:World)(i:Nat):Prop:=
 ∀a,WO D.C.n D.C.ms e a->AtR D.C.P D.ops.toArray (QK D.C D.k) i (λa' w'=>S w'/\Ux D.C.P D.ops.toArray (QK D.C D.k) S fuel (listed.setIfInBounds i true) a' w') a w
def zj1 (hr:RQ D.ops listed [i]=true)(h:Nx D S fuel listed e w i):RH D S (fuel+1) listed e w:=λa ha=>
 z2f (rs:=[i]) (by simpa[RQ] using hr) ξ λj hj=>by simp at hj;subst hj;exact h a ha
def zk1 {j:Nat}(hr:RQ D.ops listed [i,j]=true)(h:Nx D S fuel listed e w i)(h':Nx D S fuel listed e w j):RH D S (fuel+1) listed e w:=λa ha=>
 z2f (rs:=[i,j]) (by simpa[RQ] using hr) ξ λm hm=>by
  simp at hm;rcases hm with rfl|rfl
  ·exact h a ha
  ·exact h' a ha
def Nx.z0O {o:Oper}(hi:D.ops[i]? =some o)(ho:Sg D e o.guard true=true)
  (h:∀a,WO D.C.n D.C.ms e a->o.wp D.C.P a w (λa' w'=>S w'/\Ux D.C.P D.ops.toArray (QK D.C D.k) S fuel (listed.setIfInBounds i true) a' w') (QK D.C D.k)):Nx D S fuel listed e w i:=λa ha=>by
 have hw:=RX ha ho
 refine .inl ?_
 unfold wpOp
 simp only[List.getElem?_toArray,hi]
 rw[if_pos hw]
 exact .inl (h a ha)
def zi6 {v:Value}(hi:D.ops[i]? =some ⟨some d,op,ty,pos,aft,g⟩)(ho:Sg D e g true=true)(hd:Nat.blt d D.C.n=true)
  (hy:Y D.C.P e ⟨some d,op,ty,pos,aft,g⟩ v w w') (hS:S w') (h:RH D S fuel (listed.setIfInBounds i true) ((d,v)::e) w'):Nx D S fuel listed e w i:=
 Nx.z0O hi ho λa ha=>by
  have:=hy a.eval (λx v hx=>ha.look hx);unfold Oper.wp;rw[this];exact⟨hS,h _ (ha.put hd v)⟩
def zhT {v:Value}(hi:D.ops[i]? =some ⟨none,op,ty,pos,aft,g⟩)(ho:Sg D e g true=true)
  (hy:Y D.C.P e ⟨none,op,ty,pos,aft,g⟩ v w w') (hS:S w') (h:RH D S fuel (listed.setIfInBounds i true) e w'):Nx D S fuel listed e w i:=
 Nx.z0O hi ho λa ha=>by
  have:=hy a.eval (λx v hx=>ha.look hx);unfold Oper.wp;rw[this];exact⟨hS,h _ (ha.zdf v)⟩
def zjI (hi:D.ops[i]? =some ⟨none,op,ty,pos,aft,g⟩)(ho:Sg D e g true=true)
  (hy:Z D.C.P e ⟨none,op,ty,pos,aft,g⟩ w w') (hS:S w') (h:RH D S fuel (listed.setIfInBounds i true) e w'):Nx D S fuel listed e w i:=
 Nx.z0O hi ho λa ha=>by
  have:=hy a.eval (λx v hx=>ha.look hx);unfold Oper.wp;rw[this];exact⟨hS,h _ (ha.zdf undef)⟩
def W7 {f:FuncId}{args:List Value}{T:Value->World->Prop}(hi:D.ops[i]? =some ⟨some d,op,ty,pos,aft,g⟩)(ho:Sg D e g true=true)(hd:Nat.blt d D.C.n=true)
  (hy:Yc D.C.P e ⟨some d,op,ty,pos,aft,g⟩ f args w) (hc:Ps D.C.P f args w T) (h:∀v w',T v w'->S w'/\RH D S fuel (listed.setIfInBounds i true) ((d,v)::e) w'):Nx D S fuel listed e w i:=
 Nx.z0O hi ho λa ha=>by
  have:=hy a.eval (λx v hx=>ha.look hx);unfold Oper.wp;rw[this];exact Calls.mono hc λx w' ⟨v,hx,hv⟩=>by subst hx;exact⟨(h v w' hv).1,(h v w' hv).2 _ (ha.put hd v)⟩
def zhV {p:Prop}[hp:Decidable p](ht:p->RH D S fuel listed ((d,.bool true)::e) w)(hf:¬p->RH D S fuel listed ((d,.bool false)::e) w):RH D S fuel listed ((d,.bool (decide p))::e) w:=by
 by_cases h:p
 ·simp only[h,decide_true];exact ht h
 ·simp only[h,decide_false];exact hf h
def zhr {p:Prop}[hp:Decidable p](h:p)(hr:RH D S fuel listed ((d,.bool true)::e) w):RH D S fuel listed ((d,.bool (decide p))::e) w:=by
 simp only[h,decide_true];exact hr
def zeI {p:Prop}[hp:Decidable p](h:¬p)(hr:RH D S fuel listed ((d,.bool false)::e) w):RH D S fuel listed ((d,.bool (decide p))::e) w:=by
 simp only[h,decide_false];exact hr
end
/-! ### Memory -/
def OU (w:World)(b:Nat)(cs:List Value)(T:TypeId):Prop:=∃fz:Nat×Nat,w.heap[b]? =some (.cells cs.toArray T fz)/\∀i,i<cs.length->¬(fz.1<=i/\i<fz.2)
def OU.lt {w:World}{b:Nat}{cs:List Value}{T:TypeId}(h:OU w b cs T):b<w.heap.size:=by
 obtain⟨fz,h,-⟩:=h
 rcases Nat.lt_or_ge b w.heap.size with h'|h'
 ·exact h'
 ·simp[Array.getElem?_eq_none h'] at h
theorem OU.cell {w:World}{b:Nat}{cs:List Value}{T:TypeId}(h:OU w b cs T)(i:Nat):w.cell? ⟨b,i,none⟩=cs[i]? :=by
 obtain⟨fz,h,-⟩:=h
 simp[World.cell?,h]
def OU.free {w:World}{b:Nat}{cs:List Value}{T:TypeId}(h:OU w b cs T){i:Nat}(hi:i<cs.length):w.frozen? ⟨b,i,none⟩=false:=by
 obtain⟨fz,h,hf⟩:=h
 have:=hf i hi
 simp only[World.frozen?,h]
 simpa using this
structure Kp (S:Nat->Prop)(w w':World):Prop where
 os:w'.os=w.os
 tape:w'.tape=w.tape
 output:w'.output=w.output
 size:w.heap.size<=w'.heap.size
 block:∀k,k<w.heap.size->¬S k->w'.heap[k]? =w.heap[k]?
def Ext (w w':World):Prop:=Kp (λ_=>False) w w'
def Kp.refl (S:Nat->Prop)(w:World):Kp S w w:=⟨rfl,rfl,rfl,Nat.le_refl _,λ_ _ _=>rfl⟩
theorem Kp.trans {S:Nat->Prop}{a b c:World}(h:Kp S a b)(k:Kp S b c):Kp S a c:=
 ⟨k.os.trans h.os,k.tape.trans h.tape,k.output.trans h.output,Nat.le_trans h.size k.size,λi hi hs=>(k.block i (Nat.lt_of_lt_of_le hi h.size) hs).trans (h.block i hi hs)⟩
def Kp.mono {S S':Nat->Prop}{w w':World}(h:Kp S w w')(hs:∀k,k<w.heap.size->S k->S' k):Kp S' w w':=⟨h.os,h.tape,h.output,h.size,λk hk hn=>h.block k hk λhh=>hn (hs k hk hh)⟩
def Kp.ON {S S':Nat->Prop}{w w':World}(h:Kp S w w')(hs:∀k,S k->S' k):Kp S' w w':=h.mono λk _=>hs k
def Ext.kp {S:Nat->Prop}{w w':World}(h:Ext w w'):Kp S w w':=Kp.mono h λ_ _ hh=>hh.elim
def Ext.refl (w:World):Ext w w:=Kp.refl _ w
theorem Ext.trans {a b c:World}(h:Ext a b)(k:Ext b c):Ext a c:=Kp.trans h k
def Kp.drew {S:Nat->Prop}{a w:World}(h:Kp S a w):Kp S a w.drew:=⟨h.os,h.tape,h.output,h.size,h.block⟩
def Ext.drew {a w:World}(h:Ext a w):Ext a w.drew:=Kp.drew h
def Ext.Pa (w:World):Ext w w.drew:=(Ext.refl w).drew
def Kp.It {S S':Nat->Prop}{a b c:World}(h:Kp S a b)(k:Kp S' b c)(hs:∀i,S' i->a.heap.size<=i\/S i):Kp S a c:=
 ⟨k.os.trans h.os,k.tape.trans h.tape,k.output.trans h.output,Nat.le_trans h.size k.size,λi hi hn=>
  (k.block i (Nat.lt_of_lt_of_le hi h.size) λhh=>by rcases hs i hh with h'|h';omega;exact hn h').trans (h.block i hi hn)⟩
def Ext.It {S':Nat->Prop}{a b c:World}(h:Ext a b)(k:Kp S' b c)(hs:∀i,S' i->a.heap.size<=i):Ext a c:=Kp.It h k λi hi=> .inl (hs i hi)
def Ext.below {w w':World}(h:Ext w w'):Below w.heap.size w w':=⟨h.os,h.tape,h.output,h.size,λk hk=>h.block k hk id⟩
def Ext.zaD {w w':World}(h:Below w.heap.size w w'):Ext w w':=⟨h.os,h.tape,h.output,h.size,λk hk _=>h.block k hk⟩
theorem Kp.OH {S:Nat->Prop}{w w':World}{b:Nat}{cs:List Value}{T:TypeId}(h:Kp S w w')(hb:OU w b cs T)(hn:¬S b):OU w' b cs T:=by
 have hlt:=hb.lt
 obtain⟨fz,hb,hf⟩:=hb
 exact⟨fz,by rw[h.block b hlt hn];exact hb,hf⟩
theorem Ext.OH {w w':World}{b:Nat}{cs:List Value}{T:TypeId}(h:Ext w w')(hb:OU w b cs T):OU w' b cs T:=Kp.OH h hb id
theorem Kp.heap {S:Nat->Prop}{w w':World}{b:Nat}{o:Obj}(h:Kp S w w')(hb:w.heap[b]? =some o)(hn:¬S b):w'.heap[b]? =some o:=by
 have hlt:b<w.heap.size:=by
  rcases Nat.lt_or_ge b w.heap.size with h'|h'
  ·exact h'
  ·simp[Array.getElem?_eq_none h'] at hb
 rw[h.block b hlt hn];exact hb
def Uo (w:World)(o:Obj):Ext w (w.alloc o):=⟨rfl,rfl,rfl,ξ,λk hk _=>by rw[Below.heap_alloc _ _ _ hk]⟩
theorem Wo (w:World)(o:Obj):(w.alloc o).heap[w.heap.size]? =some o:=by
 show(w.heap.push o)[w.heap.size]? =_
 simp
def zcW (w:World)(cs:List Value)(T:TypeId):OU (w.alloc (.cells cs.toArray T)) w.heap.size cs T:=⟨(0,0),by rw[Wo],λi _ h=>by simp at h⟩
def TD (w:World)(b i:Nat)(v:Value):Kp (λk=>k=b) w (w.setCell ⟨b,i,none⟩ v):=⟨rfl,rfl,rfl,by simp[World.setCell],λk _ hn=>Below.heap_setCell _ _ _ _ hn⟩
def Wm {w:World}{b:Nat}{cs:List Value}{T:TypeId}(h:OU w b cs T)(i:Nat)(v:Value):OU (w.setCell ⟨b,i,none⟩ v) b (cs.set i v) T:=by
 obtain⟨fz,h,hf⟩:=h
 refine⟨fz,?_,by simpa using hf⟩
 simp[World.setCell,Array.getElem?_modify,h]
/-! ### Types -/
def aggOf:TypeDesc->Bool
 | .struct _| .array _ _=>true
 |_=>false
def TI (P:Program)(t:TypeId)(z:Value)(s bytes:Nat):Prop:=∃i,P.info? t=some i/\i.zero=some z/\i.size=s/\i.bytes=bytes
def PA {P:Program}{t:TypeId}{z:Value}{s bytes:Nat}(h:(P.info? t).map (λi=>(i.zero,i.size,i.bytes))=some (some z,s,bytes)):TI P t z s bytes:=info_parts h
section
variable {P:Program}{w:World}{t:TypeId}{z:Value}{s bytes:Nat}
theorem TI.size (h:TI P t z s bytes):(sizeOf t).run P w= .ok s w:=by
 obtain⟨i,h1,-,h3,-⟩:=h
 simp[sizeOf,typeInfo,program,Sem.run,h1,h3]
theorem TI.zero (h:TI P t z s bytes):(zeroValue t).run P w= .ok z w:=by
 obtain⟨i,h1,h2,-⟩:=h
 simp[zeroValue,typeInfo,program,Sem.run,h1,h2]
theorem Tc {d:TypeDesc}(h:P.underlying t=some d):(isAgg t).run P w= .ok (aggOf d) w:=by
 cases d<;>simp[isAgg,run_underlying h,aggOf]
end
def Qs (P:Program)(t i off n:Nat)(agg:Bool):Prop:=∃fs f z bytes d,P.underlying t=some (.struct fs)/\fs[i]? =some f/\f.offset=off/\TI P f.type z n bytes/\P.underlying f.type=some d/\aggOf d=agg
class Th (z:Int) (n:outParam Nat):Prop where
 eq:z=(n:Int)
instance zfI (n:Nat):Th (n:Int) n:=⟨rfl⟩
instance zj6 (n:Nat):Th (no_index (OfNat.ofNat n):Int) (OfNat.ofNat n):=⟨rfl⟩
instance zj7 {a b:Int} {m n:Nat} [ha:Th a m] [hb:Th b n]:Th (a+b) (m+n):=⟨by rw[ha.eq,hb.eq];simp⟩
instance zj2 {a b:Int} {m n:Nat} [ha:Th a m] [hb:Th b n]:Th (a*b) (m*n):=⟨by rw[ha.eq,hb.eq];simp⟩
instance zja {a b:Int} {m n:Nat} [ha:Th a m] [hb:Th b n]:Th (a%b) (m%n):=⟨by rw[ha.eq,hb.eq];simp⟩
/-! ### Single operations -/
abbrev S (l:List UInt8):Value:= .string ⟨l.toArray⟩
abbrev I (n:Int):Value:= .int .i64 n
abbrev ptr (b i:Nat):Value:= .pointer (some ⟨b,i,none⟩)
section
variable {P:Program}{e:Env}{d:Option Nat}{ty t t':TypeId}{pos:String}{aft:Array Edge}{g:Option (Nat×Bool)}{x y:Operand}{w:World}{k k':IntKind}{a b:Int}{m n:Nat}{v:Value}{l l':List UInt8}
def Xr (hx:look e x=some v):Y P e ⟨d,.move x,ty,pos,aft,g⟩ v w w:=fun ρ hρ=>by simp[execOp,hρ _ _ hx]
def Rv (hx:look e x=some v):Y P e ⟨d,.assign x,ty,pos,aft,g⟩ v w w:=fun ρ hρ=>by simp[execOp,hρ _ _ hx]
def UG {c:Operand}(hc:look e c=some (.bool true))(hx:look e x=some v):Y P e ⟨d,.pick c x y,ty,pos,aft,g⟩ v w w:=fun ρ hρ=>by simp[execOp,hρ _ _ hx,hρ _ _ hc,asBool]
def U6 {c:Operand}(hc:look e c=some (.bool false))(hy:look e y=some v):Y P e ⟨d,.pick c x y,ty,pos,aft,g⟩ v w w:=fun ρ hρ=>by simp[execOp,hρ _ _ hy,hρ _ _ hc,asBool]
-- tests on integers
def ylt (hx:look e x=some (.int k a))(hy:look e y=some (.int k b)):Y P e ⟨d,.binOp .lss t x y t',ty,pos,aft,g⟩ (.bool (decide (a<b))) w w:=fun ρ hρ=>by simp[execOp,go_sem,hρ _ _ hx,hρ _ _ hy]
def Z3 (hx:look e x=some (.int k a))(hy:look e y=some (.int k b)):Y P e ⟨d,.binOp .leq t x y t',ty,pos,aft,g⟩ (.bool (decide (a<=b))) w w:=fun ρ hρ=>by simp[execOp,go_sem,hρ _ _ hx,hρ _ _ hy]
def Y7 (hx:look e x=some (.int k a))(hy:look e y=some (.int k b)):Y P e ⟨d,.binOp .gtr t x y t',ty,pos,aft,g⟩ (.bool (decide (b<a))) w w:=fun ρ hρ=>by simp[execOp,go_sem,hρ _ _ hx,hρ _ _ hy]
def yge (hx:look e x=some (.int k a))(hy:look e y=some (.int k b)):Y P e ⟨d,.binOp .geq t x y t',ty,pos,aft,g⟩ (.bool (decide (b<=a))) w w:=fun ρ hρ=>by simp[execOp,go_sem,hρ _ _ hx,hρ _ _ hy]
def yeq (hx:look e x=some (.int k a))(hy:look e y=some (.int k b)):Y P e ⟨d,.binOp .eql t x y t',ty,pos,aft,g⟩ (.bool (decide (a=b))) w w:=fun ρ hρ=>by
 have:(a==b)=decide (a=b):=by by_cases h:a=b<;>simp[h]
 simp[execOp,go_sem,hρ _ _ hx,hρ _ _ hy,this]
def yne (hx:look e x=some (.int k a))(hy:look e y=some (.int k b)):Y P e ⟨d,.binOp .neq t x y t',ty,pos,aft,g⟩ (.bool (decide (a≠b))) w w:=fun ρ hρ=>by
 have:(a !=b)=decide (a≠b):=by by_cases h:a=b<;>simp[h]
 simp[execOp,go_sem,hρ _ _ hx,hρ _ _ hy,this]
-- arithmetic on int
theorem wrap_i64 {a:Int}(h:JIq a):IntKind.i64.wrap a=a:=by
 simp only[IntKind.wrap,IntKind.bits,IntKind.signed];simp;omega
def UN (hx:look e x=some (I a))(hy:look e y=some (I b))(h:JIq (a+b)):Y P e ⟨d,.binOp .add t x y t',ty,pos,aft,g⟩ (I (a+b)) w w:=fun ρ hρ=>by simp[execOp,go_sem,hρ _ _ hx,hρ _ _ hy,wrap_i64 h]
def XG (hx:look e x=some (I a))(hy:look e y=some (I b))(h:JIq (a-b)):Y P e ⟨d,.binOp .sub t x y t',ty,pos,aft,g⟩ (I (a-b)) w w:=fun ρ hρ=>by simp[execOp,go_sem,hρ _ _ hx,hρ _ _ hy,wrap_i64 h]
def Y8 (hx:look e x=some (I a))(hy:look e y=some (I b))(h:JIq (a*b)):Y P e ⟨d,.binOp .mul t x y t',ty,pos,aft,g⟩ (I (a*b)) w w:=fun ρ hρ=>by simp[execOp,go_sem,hρ _ _ hx,hρ _ _ hy,wrap_i64 h]
def WX (hx:look e x=some (I a))(hy:look e y=some (I b))(h:0<=a/\0<b/\a<=9223372036854775807):Y P e ⟨d,.binOp .quo t x y t',ty,pos,aft,g⟩ (I (a / b)) w w:=fun ρ hρ=>by
 have h0:¬b=0:=by omega
 have h1:a.tdiv b=a / b:=Int.tdiv_eq_ediv_of_nonneg h.1
 have h2:0<=a / b:=Int.ediv_nonneg h.1 ω
 have h3:a / b<=a:=Int.ediv_le_self b h.1
 have h4:=wrap_i64 (a:=a / b) ⟨ω,ω⟩
 simp[execOp,go_sem,hρ _ _ hx,hρ _ _ hy,h0,h1,h4]
def yre (hx:look e x=some (I a))(hy:look e y=some (I b))(h:0<=a/\0<b):Y P e ⟨d,.binOp .rem t x y t',ty,pos,aft,g⟩ (I (a%b)) w w:=fun ρ hρ=>by
 have h0:¬b=0:=by omega
 have h1:a.tmod b=a%b:=Int.tmod_eq_emod_of_nonneg h.1
 simp[execOp,go_sem,hρ _ _ hx,hρ _ _ hy,h0,h1]
def yrt (hx:look e x=some (I a))(hy:look e y=some (I b))(h:b≠0):Y P e ⟨d,.binOp .rem t x y t',ty,pos,aft,g⟩ (I (a.tmod b)) w w:=fun ρ hρ=>by
 simp[execOp,go_sem,hρ _ _ hx,hρ _ _ hy,h]
def zjB (c p:Nat)(hx:look e x=some (I a))(hy:look e y=some (.int k' (c:Int)))(hc:c<=64)(hp:2^c=p)(h:JIq (a*p)):Y P e ⟨d,.binOp .shl t x y t',ty,pos,aft,g⟩ (I (a*p)) w w:=fun ρ hρ=>by
 have h0:¬((c:Int)<0):=by omega
 have hp':(2:Int)^c=(p:Int):=by rw[<-hp];simp
 simp only[execOp,eqGuard_shl,binOp_shl,hρ _ _ hx,hρ _ _ hy,Op.shift,h0,if_false,Int.toNat_natCast,IntKind.bits,Nat.min_eq_left hc,pure_bind,Sem.run_pure,hp',wrap_i64 h]
def ysr (c:Nat)(hx:look e x=some (.int k a))(hy:look e y=some (.int k' (c:Int)))(hc:c<=k.bits):Y P e ⟨d,.binOp .shr t x y t',ty,pos,aft,g⟩ (.int k (a / 2^c)) w w:=fun ρ hρ=>by
 have h0:¬((c:Int)<0):=by omega
 have h1:(0:Int)<=2^c:=Int.pow_nonneg ψ
 simp only[execOp,eqGuard_shr,binOp_shr,hρ _ _ hx,hρ _ _ hy,Op.shift,h0,if_false,Int.toNat_natCast,Nat.min_eq_left hc,Int.fdiv_eq_ediv_of_nonneg _ h1,pure_bind,Sem.run_pure]
-- numbers without a sign, as natural numbers
def zer (hx:look e x=some (.int k (m:Int)))(hy:look e y=some (.int k (n:Int)))(hs:k.signed=false):Y P e ⟨d,.binOp .add t x y t',ty,pos,aft,g⟩ (.int k (((m+n)%2^k.bits:Nat):Int)) w w:=fun ρ hρ=>by
 have:k.wrap ((m:Int)+n)=(((m+n)%2^k.bits:Nat):Int):=by simp[IntKind.wrap,hs]
 simp[execOp,go_sem,hρ _ _ hx,hρ _ _ hy,this]
def zdS (c:Nat)(hx:look e x=some (.int k (m:Int)))(hy:look e y=some (.int k' (c:Int)))(hs:k.signed=false)(hc:c<=k.bits):Y P e ⟨d,.binOp .shl t x y t',ty,pos,aft,g⟩ (.int k (((m*2^c)%2^k.bits:Nat):Int)) w w:=fun ρ hρ=>by
 have h0:¬((c:Int)<0):=by omega
 have:k.wrap ((m:Int)*2^c)=(((m*2^c)%2^k.bits:Nat):Int):=by simp[IntKind.wrap,hs]
 simp only[execOp,eqGuard_shl,binOp_shl,hρ _ _ hx,hρ _ _ hy,Op.shift,h0,if_false,Int.toNat_natCast,Nat.min_eq_left hc,pure_bind,Sem.run_pure,this]
def zi2 (c:Nat)(hx:look e x=some (.int k (m:Int)))(hy:look e y=some (.int k' (c:Int)))(hc:c<=k.bits):Y P e ⟨d,.binOp .shr t x y t',ty,pos,aft,g⟩ (.int k ((m / 2^c:Nat):Int)) w w:=fun ρ hρ=>by
 have:=ysr (P:=P) (d:=d) (t:=t) (t':=t') (ty:=ty) (pos:=pos) (aft:=aft) (g:=g) (w:=w) c hx hy hc ρ hρ
 rw[this]
 simp
theorem R1 {k:IntKind}(h:m<2^k.bits):(BitVec.ofInt k.bits (m:Int)).toNat=m:=by
 simp
 exact Nat.mod_eq_of_lt h
theorem z0L {k:IntKind}(hs:k.signed=false)(h:m<2^k.bits):k.wrap (m:Int)=(m:Int):=by
 simp only[IntKind.wrap,hs]
 simp
 exact Int.emod_eq_of_lt ω (by exact_mod_cast h)
def zbS (hx:look e x=some (.int k (m:Int)))(hy:look e y=some (.int k (n:Int)))(hs:k.signed=false)(hm:m<2^k.bits)(hn:n<2^k.bits):Y P e ⟨d,.binOp .and t x y t',ty,pos,aft,g⟩ (.int k ((m&&&n:Nat):Int)) w w:=fun ρ hρ=>by
 simp only[execOp,eqGuard_and,binOp_and,intBits_and,hρ _ _ hx,hρ _ _ hy,pure_bind,Sem.run_pure,bits,BitVec.toNat_and,R1 hm,R1 hn,z0L hs (Nat.lt_of_le_of_lt Nat.and_le_left hm)]
def zdF (hx:look e x=some (.int k (m:Int)))(hy:look e y=some (.int k (n:Int)))(hs:k.signed=false)(hm:m<2^k.bits)(hn:n<2^k.bits):Y P e ⟨d,.binOp .or t x y t',ty,pos,aft,g⟩ (.int k ((m |||n:Nat):Int)) w w:=fun ρ hρ=>by
 simp only[execOp,eqGuard_or,binOp_or,intBits_or,hρ _ _ hx,hρ _ _ hy,pure_bind,Sem.run_pure,bits,BitVec.toNat_or,R1 hm,R1 hn,z0L hs (Nat.or_lt_two_pow hm hn)]
def zdT (hx:look e x=some (.int k (m:Int)))(hy:look e y=some (.int k (n:Int)))(hs:k.signed=false)(hm:m<2^k.bits)(hn:n<2^k.bits):Y P e ⟨d,.binOp .xor t x y t',ty,pos,aft,g⟩ (.int k ((m^^^n:Nat):Int)) w w:=fun ρ hρ=>by
 simp only[execOp,eqGuard_xor,binOp_xor,intBits_xor,hρ _ _ hx,hρ _ _ hy,pure_bind,Sem.run_pure,bits,BitVec.toNat_xor,R1 hm,R1 hn,z0L hs (Nat.xor_lt_two_pow hm hn)]
def zfq (hx:look e x=some (I (m:Int)))(hy:look e y=some (I (n:Int)))(hm:m<2^63)(hn:n<2^63):Y P e ⟨d,.binOp .and t x y t',ty,pos,aft,g⟩ (I ((m&&&n:Nat):Int)) w w:=fun ρ hρ=>by
 have h1:m<2^IntKind.i64.bits:=by simp only[IntKind.bits];omega
 have h2:n<2^IntKind.i64.bits:=by simp only[IntKind.bits];omega
 have h3:m&&&n<=m:=Nat.and_le_left
 simp only[execOp,eqGuard_and,binOp_and,intBits_and,hρ _ _ hx,hρ _ _ hy,pure_bind,Sem.run_pure,bits,BitVec.toNat_and,R1 h1,R1 h2]
 rw[wrap_i64 ⟨ω,ω⟩]
def zfK (hx:look e x=some (.int k (m:Int)))(hs:k.signed=false)(hm:m<2^k.bits):Y P e ⟨d,.unOp .neg t x,ty,pos,aft,g⟩ (.int k (((2^k.bits-m)%2^k.bits:Nat):Int)) w w:=fun ρ hρ=>by
 have:k.wrap (0-(m:Int))=(((2^k.bits-m)%2^k.bits:Nat):Int):=by
  simp only[IntKind.wrap,hs];simp;rw[Int.ofNat_sub ω];simp
 simp only[execOp,hρ _ _ hx,pure_bind,Sem.run_pure,Op.unary,Op.intArith,this]
def ziv (hx:look e x=some (.int k (m:Int)))(hs:k.signed=false)(hm:m<2^k.bits):Y P e ⟨d,.unOp .xor t x,ty,pos,aft,g⟩ (.int k (((2^k.bits-1)^^^m:Nat):Int)) w w:=fun ρ hρ=>by
 have hmax:k.max=((2^k.bits-1:Nat):Int):=by cases k<;>simp_all [IntKind.max,IntKind.signed,IntKind.bits]
 have hp:2^k.bits-1<2^k.bits:=by have:=Nat.two_pow_pos k.bits;omega
 simp only[execOp,hρ _ _ hx,pure_bind,Sem.run_pure,Op.unary,hs,Bool.false_eq_true,if_false,hmax,intBits_xor,bits,BitVec.toNat_xor,R1 hm,R1 hp,z0L hs (Nat.xor_lt_two_pow hp hm)]
def yng (hx:look e x=some (I a))(h: -9223372036854775807<=a)(h':a<=9223372036854775807):Y P e ⟨d,.unOp .neg t x,ty,pos,aft,g⟩ (I (-a)) w w:=fun ρ hρ=>by
 simp[execOp,go_sem,hρ _ _ hx,Op.unary,wrap_i64 (a:=-a) ⟨ω,ω⟩]
def S5 {c:Bool}(hx:look e x=some (.bool c)):Y P e ⟨d,.unOp .not t x,ty,pos,aft,g⟩ (.bool (!c)) w w:=fun ρ hρ=>by simp[execOp,hρ _ _ hx,Op.unary]
def z9S {p:Prop}[Decidable p](hx:look e x=some (.bool (decide p))):Y P e ⟨d,.unOp .not t x,ty,pos,aft,g⟩ (.bool (decide ¬p)) w w:=fun ρ hρ=>by simp[execOp,hρ _ _ hx,Op.unary]
-- conversions of numbers
def ycv (hx:look e x=some (.int k a))(hs:P.underlying t=some (.int k))(hd:P.underlying t'=some (.int k'))(h:k'.wrap a=b):Y P e ⟨d,.convert t t' x,ty,pos,aft,g⟩ (.int k' b) w w:=fun ρ hρ=>by
 simp[execOp,hρ _ _ hx,convert,run_underlying hs,run_underlying hd,Conv.intToInt,h]
def zep (hx:look e x=some (.int k (m:Int)))(hs:P.underlying t=some (.int k))(hd:P.underlying t'=some (.int k'))(h:k'.signed=false):Y P e ⟨d,.convert t t' x,ty,pos,aft,g⟩ (.int k' ((m%2^k'.bits:Nat):Int)) w w:=
 ycv hx hs hd (by simp[IntKind.wrap,h])
def zeM (hx:look e x=some (.int k a))(hs:P.underlying t=some (.int k))(hd:P.underlying t'=some (.int k'))(h:k'.min<=a/\a<=k'.max):Y P e ⟨d,.convert t t' x,ty,pos,aft,g⟩ (.int k' a) w w:=
 ycv hx hs hd (by cases k'<;>simp only[IntKind.wrap,IntKind.bits,IntKind.signed,IntKind.min,IntKind.max] at* <;>simp at* <;>omega)
-- strings
theorem T6 (l:List UInt8):(ByteArray.mk l.toArray).size=l.length:=by simp[ByteArray.size]
def Wh (ht:P.underlying t=some .string)(hx:look e x=some (S l)):Y P e ⟨d,.call ⟨.builtin .len,#[x],#[t]⟩,ty,pos,aft,g⟩ (I (l.length:Int)) w w:=fun ρ hρ=>by
 simp[go_sem,hρ _ _ hx,run_len_string w t ty _ ht,T6]
def zg2 (ht:P.underlying t=some .string)(hx:look e x=some (S l))(hy:look e y=some (.int k (n:Int)))(hn:n<l.length):Y P e ⟨d,.index t x y,ty,pos,aft,g⟩ (.int .u8 ((l.getD n 0).toNat:Int)) w w:=fun ρ hρ=>by
 have h1:(0:Int)<=(n:Int)/\(n:Int)<((ByteArray.mk l.toArray).size:Int):=by rw[T6];omega
 have h2:((ByteArray.mk l.toArray)[n]'(by rw[T6];exact hn))=l.getD n 0:=by
  simp[List.getD,hn]
  rfl
 simp only[execOp,hρ _ _ hx,hρ _ _ hy,run_index_string w t _ k _ ht,Sem.run_bind,dif_pos h1,Result.andThen_ok,Sem.run_pure,Int.toNat_natCast,h2]
def Yb (hx:look e x=some (S l))(hy:look e y=some (S l'))(h:l.length+l'.length<=9223372036854775807):Y P e ⟨d,.binOp .add t x y t',ty,pos,aft,g⟩ (S (l++l')) w w:=fun ρ hρ=>by
 have h1:(Op.stringOp .add ⟨l.toArray⟩ ⟨l'.toArray⟩).run P w= .ok (.string (⟨l.toArray⟩++⟨l'.toArray⟩)) w:=run_string_add_sum w _ _ (by rw[T6,T6];exact h)
 have h2:((⟨l.toArray⟩:ByteArray)++(⟨l'.toArray⟩:ByteArray))=⟨(l++l').toArray⟩:=by
  apply ByteArray.ext;apply Array.toList_inj.1;rw[Joins.data_append]
 simp only[execOp,hρ _ _ hx,hρ _ _ hy,eqGuard_add,binOp_string_add,pure_bind,Sem.run_bind,h1,h2,Result.andThen_ok,Sem.run_pure]
def zkq (hx:look e x=some (S l))(hy:look e y=some (S l')):Y P e ⟨d,.binOp .eql t x y t',ty,pos,aft,g⟩ (.bool (decide (l=l'))) w w:=fun ρ hρ=>by
 have:(l==l')=decide (l=l'):=by by_cases h:l=l'<;>simp[h]
 simp[execOp,go_sem,hρ _ _ hx,hρ _ _ hy,this]
theorem WM (l:List UInt8)(i j:Nat):(ByteArray.mk l.toArray).extract i j=⟨((l.drop i).take (j-i)).toArray⟩:=by
 apply ByteArray.ext
 apply Array.toList_inj.1
 rw[Lib.extract_data]
def zhd {y':Operand}{i j:Nat}(ht:P.underlying t=some .string)(hx:look e x=some (S l))(hy:look e y=some (.int k (i:Int)))(hy':look e y'=some (.int k' (j:Int)))(h:i<=j/\j<=l.length):
  Y P e ⟨d,.slice t x (some y) (some y') none,ty,pos,aft,g⟩ (S ((l.drop i).take (j-i))) w w:=fun ρ hρ=>by
 have h1:∀w,(Instr.sliceBound (.int k' (j:Int)) (ByteArray.mk l.toArray).size .sliceAlen).run P w= .ok j w:=λw=>by rw[run_sliceBound _ _ _ _ _ ω (by rw[T6];omega)];simp
 have h2:∀w,(Instr.sliceBound (.int k (i:Int)) j .sliceB).run P w= .ok i w:=λw=>by rw[run_sliceBound _ _ _ _ _ ω ω];simp
 simp[execOp,hρ _ _ hx,hρ _ _ hy,hρ _ _ hy',Instr.sliceAt,run_underlying ht,Instr.slice,Instr.sliceBounds,h1,h2,WM]
def zeU {i:Nat}(ht:P.underlying t=some .string)(hx:look e x=some (S l))(hy:look e y=some (.int k (i:Int)))(h:i<=l.length):
  Y P e ⟨d,.slice t x (some y) none none,ty,pos,aft,g⟩ (S (l.drop i)) w w:=fun ρ hρ=>by
 have h2:∀w,(Instr.sliceBound (.int k (i:Int)) l.length .sliceB).run P w= .ok i w:=λw=>by rw[run_sliceBound _ _ _ _ _ ω ω];simp
 have h3:(l.drop i).take (l.length-i)=l.drop i:=List.take_of_length_le ξ
 simp[execOp,hρ _ _ hx,hρ _ _ hy,Instr.sliceAt,run_underlying ht,Instr.slice,Instr.sliceBounds,h2,WM,T6,h3]
def zfz {j:Nat}(ht:P.underlying t=some .string)(hx:look e x=some (S l))(hy:look e y=some (.int k (j:Int)))(h:j<=l.length):
  Y P e ⟨d,.slice t x none (some y) none,ty,pos,aft,g⟩ (S (l.take j)) w w:=fun ρ hρ=>by
 have h1:∀w,(Instr.sliceBound (.int k (j:Int)) (ByteArray.mk l.toArray).size .sliceAlen).run P w= .ok j w:=λw=>by rw[run_sliceBound _ _ _ _ _ ω (by rw[T6];omega)];simp
 simp[execOp,hρ _ _ hx,hρ _ _ hy,Instr.sliceAt,run_underlying ht,Instr.slice,Instr.sliceBounds,h1,WM]
def ymi (hx:look e x=some (I a))(hy:look e y=some (I b)){ts:Array TypeId}:Y P e ⟨d,.call ⟨.builtin .min,#[x,y],ts⟩,ty,pos,aft,g⟩ (I (min a b)) w w:=fun ρ hρ=>by
 have:(if b<a then b else a)=min a b:=by omega
 simp[go_sem,hρ _ _ hx,hρ _ _ hy,Builtin.min_,Builtin.min2,this]
def yma (hx:look e x=some (I a))(hy:look e y=some (I b)){ts:Array TypeId}:Y P e ⟨d,.call ⟨.builtin .max,#[x,y],ts⟩,ty,pos,aft,g⟩ (I (max a b)) w w:=fun ρ hρ=>by
 have:(if a<b then b else a)=max a b:=by omega
 simp[go_sem,hρ _ _ hx,hρ _ _ hy,Builtin.max_,Builtin.max2,this]
-- the same with the numbers written out
def zfk (hx:look e x=some (.int .u32 (m:Int)))(hy:look e y=some (.int .u32 (n:Int))):Y P e ⟨d,.binOp .add t x y t',ty,pos,aft,g⟩ (.int .u32 (((m+n)%4294967296:Nat):Int)) w w:=zer hx hy O
def zfG (hx:look e x=some (.int .u64 (m:Int)))(hy:look e y=some (.int .u64 (n:Int))):Y P e ⟨d,.binOp .add t x y t',ty,pos,aft,g⟩ (.int .u64 (((m+n)%18446744073709551616:Nat):Int)) w w:=zer hx hy O
def zhj (hx:look e x=some (.int .u8 (m:Int)))(hy:look e y=some (.int .u8 (n:Int)))(hm:m<256)(hn:n<256):Y P e ⟨d,.binOp .and t x y t',ty,pos,aft,g⟩ (.int .u8 ((m&&&n:Nat):Int)) w w:=zbS hx hy O hm hn
def zeG (hx:look e x=some (.int .u32 (m:Int)))(hy:look e y=some (.int .u32 (n:Int)))(hm:m<4294967296)(hn:n<4294967296):Y P e ⟨d,.binOp .and t x y t',ty,pos,aft,g⟩ (.int .u32 ((m&&&n:Nat):Int)) w w:=zbS hx hy O hm hn
def zcn (hx:look e x=some (.int .u64 (m:Int)))(hy:look e y=some (.int .u64 (n:Int)))(hm:m<18446744073709551616)(hn:n<18446744073709551616):Y P e ⟨d,.binOp .and t x y t',ty,pos,aft,g⟩ (.int .u64 ((m&&&n:Nat):Int)) w w:=zbS hx hy O hm hn
def zgY (hx:look e x=some (.int .u8 (m:Int)))(hy:look e y=some (.int .u8 (n:Int)))(hm:m<256)(hn:n<256):Y P e ⟨d,.binOp .or t x y t',ty,pos,aft,g⟩ (.int .u8 ((m |||n:Nat):Int)) w w:=zdF hx hy O hm hn
def zda (hx:look e x=some (.int .u64 (m:Int)))(hy:look e y=some (.int .u64 (n:Int)))(hm:m<18446744073709551616)(hn:n<18446744073709551616):Y P e ⟨d,.binOp .or t x y t',ty,pos,aft,g⟩ (.int .u64 ((m |||n:Nat):Int)) w w:=zdF hx hy O hm hn
def zeE (hx:look e x=some (.int .u32 (m:Int)))(hy:look e y=some (.int .u32 (n:Int)))(hm:m<4294967296)(hn:n<4294967296):Y P e ⟨d,.binOp .xor t x y t',ty,pos,aft,g⟩ (.int .u32 ((m^^^n:Nat):Int)) w w:=zdT hx hy O hm hn
def zdc (hx:look e x=some (.int .u64 (m:Int)))(hy:look e y=some (.int .u64 (n:Int)))(hm:m<18446744073709551616)(hn:n<18446744073709551616):Y P e ⟨d,.binOp .xor t x y t',ty,pos,aft,g⟩ (.int .u64 ((m^^^n:Nat):Int)) w w:=zdT hx hy O hm hn
def zfe (hx:look e x=some (.int .u32 (m:Int)))(hm:m<4294967296):Y P e ⟨d,.unOp .neg t x,ty,pos,aft,g⟩ (.int .u32 (((4294967296-m)%4294967296:Nat):Int)) w w:=zfK hx O hm
def zfl (hx:look e x=some (.int .u32 (m:Int)))(hm:m<4294967296):Y P e ⟨d,.unOp .xor t x,ty,pos,aft,g⟩ (.int .u32 ((4294967295^^^m:Nat):Int)) w w:=ziv hx O hm
def zif (c:Nat)(hx:look e x=some (.int .u8 (m:Int)))(hy:look e y=some (.int k' (c:Int)))(hc:c<=8):Y P e ⟨d,.binOp .shl t x y t',ty,pos,aft,g⟩ (.int .u8 (((m*2^c)%256:Nat):Int)) w w:=zdS c hx hy O hc
def zdl (c:Nat)(hx:look e x=some (.int .u64 (m:Int)))(hy:look e y=some (.int k' (c:Int)))(hc:c<=64):Y P e ⟨d,.binOp .shl t x y t',ty,pos,aft,g⟩ (.int .u64 (((m*2^c)%18446744073709551616:Nat):Int)) w w:=zdS c hx hy O hc
def zh2 (hx:look e x=some (.int k (m:Int)))(hs:P.underlying t=some (.int k))(hd:P.underlying t'=some (.int .u8)):Y P e ⟨d,.convert t t' x,ty,pos,aft,g⟩ (.int .u8 ((m%256:Nat):Int)) w w:=zep hx hs hd O
def zfw (hx:look e x=some (.int k (m:Int)))(hs:P.underlying t=some (.int k))(hd:P.underlying t'=some (.int .u32)):Y P e ⟨d,.convert t t' x,ty,pos,aft,g⟩ (.int .u32 ((m%4294967296:Nat):Int)) w w:=zep hx hs hd O
def PQ (hx:look e x=some (.int k a))(hs:P.underlying t=some (.int k))(hd:P.underlying t'=some (.int .i64))(h:JIq a):Y P e ⟨d,.convert t t' x,ty,pos,aft,g⟩ (.int .i64 a) w w:=zeM hx hs hd h
def Qg (hx:look e x=some (.int k a))(hs:P.underlying t=some (.int k))(hd:P.underlying t'=some (.int .u64))(h:0<=a/\a<=18446744073709551615):Y P e ⟨d,.convert t t' x,ty,pos,aft,g⟩ (.int .u64 a) w w:=zeM hx hs hd h
def zbx {c:UInt8}(hx:look e x=some (.int .u8 (c.toNat:Int)))(hs:P.underlying t=some (.int .u8))(hd:P.underlying t'=some (.int k'))(hk:255<=k'.max):Y P e ⟨d,.convert t t' x,ty,pos,aft,g⟩ (.int k' (c.toNat:Int)) w w:=
 zeM hx hs hd ⟨by have:k'.min<=0:=(by cases k'<;>decide);omega,by have:=c.toNat_lt;omega⟩
-- .. of whatever integers that are natural numbers
section
variable {za zb:Int}[ha:Th za m][hb:Th zb n]
def Us (c p:Nat)(hx:look e x=some (.int k za))(hy:look e y=some (.int k' (c:Int)))(hc:c<=k.bits)(hp:2^c=p):Y P e ⟨d,.binOp .shr t x y t',ty,pos,aft,g⟩ (.int k ((m / p:Nat):Int)) w w:=by
 obtain⟨rfl⟩:=ha;subst hp;exact zi2 c hx hy hc
def zkk (c p:Nat)(hx:look e x=some (.int .u8 za))(hy:look e y=some (.int k' (c:Int)))(hc:c<=8)(hp:2^c=p):Y P e ⟨d,.binOp .shl t x y t',ty,pos,aft,g⟩ (.int .u8 (((m*p)%256:Nat):Int)) w w:=by
 obtain⟨rfl⟩:=ha;subst hp;exact zif c hx hy hc
def Rj (c p:Nat)(hx:look e x=some (.int .u64 za))(hy:look e y=some (.int k' (c:Int)))(hc:c<=64)(hp:2^c=p):Y P e ⟨d,.binOp .shl t x y t',ty,pos,aft,g⟩ (.int .u64 (((m*p)%18446744073709551616:Nat):Int)) w w:=by
 obtain⟨rfl⟩:=ha;subst hp;exact zdl c hx hy hc
def ziI (hx:look e x=some (.int .u32 za))(hy:look e y=some (.int .u32 zb)):Y P e ⟨d,.binOp .add t x y t',ty,pos,aft,g⟩ (.int .u32 (((m+n)%4294967296:Nat):Int)) w w:=by obtain⟨rfl⟩:=ha;obtain⟨rfl⟩:=hb;exact zfk hx hy
def V7 (hx:look e x=some (.int .u64 za))(hy:look e y=some (.int .u64 zb)):Y P e ⟨d,.binOp .add t x y t',ty,pos,aft,g⟩ (.int .u64 (((m+n)%18446744073709551616:Nat):Int)) w w:=by obtain⟨rfl⟩:=ha;obtain⟨rfl⟩:=hb;exact zfG hx hy
def zkb (hx:look e x=some (.int .u8 za))(hy:look e y=some (.int .u8 zb))(hm:m<256)(hn:n<256):Y P e ⟨d,.binOp .and t x y t',ty,pos,aft,g⟩ (.int .u8 ((m&&&n:Nat):Int)) w w:=by obtain⟨rfl⟩:=ha;obtain⟨rfl⟩:=hb;exact zhj hx hy hm hn
def zdt (hx:look e x=some (.int .u32 za))(hy:look e y=some (.int .u32 zb))(hm:m<4294967296)(hn:n<4294967296):Y P e ⟨d,.binOp .and t x y t',ty,pos,aft,g⟩ (.int .u32 ((m&&&n:Nat):Int)) w w:=by obtain⟨rfl⟩:=ha;obtain⟨rfl⟩:=hb;exact zeG hx hy hm hn
def Uq (hx:look e x=some (.int .u64 za))(hy:look e y=some (.int .u64 zb))(hm:m<18446744073709551616)(hn:n<18446744073709551616):Y P e ⟨d,.binOp .and t x y t',ty,pos,aft,g⟩ (.int .u64 ((m&&&n:Nat):Int)) w w:=by obtain⟨rfl⟩:=ha;obtain⟨rfl⟩:=hb;exact zcn hx hy hm hn
def zjp (hx:look e x=some (.int .u8 za))(hy:look e y=some (.int .u8 zb))(hm:m<256)(hn:n<256):Y P e ⟨d,.binOp .or t x y t',ty,pos,aft,g⟩ (.int .u8 ((m |||n:Nat):Int)) w w:=by obtain⟨rfl⟩:=ha;obtain⟨rfl⟩:=hb;exact zgY hx hy hm hn
def z1J (hx:look e x=some (.int .u64 za))(hy:look e y=some (.int .u64 zb))(hm:m<18446744073709551616)(hn:n<18446744073709551616):Y P e ⟨d,.binOp .or t x y t',ty,pos,aft,g⟩ (.int .u64 ((m |||n:Nat):Int)) w w:=by obtain⟨rfl⟩:=ha;obtain⟨rfl⟩:=hb;exact zda hx hy hm hn
def zdL (hx:look e x=some (.int .u32 za))(hy:look e y=some (.int .u32 zb))(hm:m<4294967296)(hn:n<4294967296):Y P e ⟨d,.binOp .xor t x y t',ty,pos,aft,g⟩ (.int .u32 ((m^^^n:Nat):Int)) w w:=by obtain⟨rfl⟩:=ha;obtain⟨rfl⟩:=hb;exact zeE hx hy hm hn
def z1L (hx:look e x=some (.int .u64 za))(hy:look e y=some (.int .u64 zb))(hm:m<18446744073709551616)(hn:n<18446744073709551616):Y P e ⟨d,.binOp .xor t x y t',ty,pos,aft,g⟩ (.int .u64 ((m^^^n:Nat):Int)) w w:=by obtain⟨rfl⟩:=ha;obtain⟨rfl⟩:=hb;exact zdc hx hy hm hn
def XF (hx:look e x=some (I za))(hy:look e y=some (I zb))(hm:m<=9223372036854775807)(hn:n<=9223372036854775807):Y P e ⟨d,.binOp .and t x y t',ty,pos,aft,g⟩ (I ((m&&&n:Nat):Int)) w w:=by obtain⟨rfl⟩:=ha;obtain⟨rfl⟩:=hb;exact zfq hx hy ω ω
def zgC (hx:look e x=some (.int .u32 za))(hm:m<4294967296):Y P e ⟨d,.unOp .neg t x,ty,pos,aft,g⟩ (.int .u32 (((4294967296-m)%4294967296:Nat):Int)) w w:=by obtain⟨rfl⟩:=ha;exact zfe hx hm
def zdz (hx:look e x=some (.int .u32 za))(hm:m<4294967296):Y P e ⟨d,.unOp .xor t x,ty,pos,aft,g⟩ (.int .u32 ((4294967295^^^m:Nat):Int)) w w:=by obtain⟨rfl⟩:=ha;exact zfl hx hm
def zcR (hx:look e x=some (.int k za))(hs:P.underlying t=some (.int k))(hd:P.underlying t'=some (.int .u8)):Y P e ⟨d,.convert t t' x,ty,pos,aft,g⟩ (.int .u8 ((m%256:Nat):Int)) w w:=by obtain⟨rfl⟩:=ha;exact zh2 hx hs hd
def z4T (hx:look e x=some (.int k za))(hs:P.underlying t=some (.int k))(hd:P.underlying t'=some (.int .u32)):Y P e ⟨d,.convert t t' x,ty,pos,aft,g⟩ (.int .u32 ((m%4294967296:Nat):Int)) w w:=by obtain⟨rfl⟩:=ha;exact zfw hx hs hd
def zhl (ht:P.underlying t=some .string)(hx:look e x=some (S l))(hy:look e y=some (.int k za))(hn:m<l.length):Y P e ⟨d,.index t x y,ty,pos,aft,g⟩ (.int .u8 ((l.getD m 0).toNat:Int)) w w:=by obtain⟨rfl⟩:=ha;exact zg2 ht hx hy hn
def zjz {y':Operand}(ht:P.underlying t=some .string)(hx:look e x=some (S l))(hy:look e y=some (.int k za))(hy':look e y'=some (.int k' zb))(h:m<=n/\n<=l.length):
  Y P e ⟨d,.slice t x (some y) (some y') none,ty,pos,aft,g⟩ (S ((l.drop m).take (n-m))) w w:=by obtain⟨rfl⟩:=ha;obtain⟨rfl⟩:=hb;exact zhd ht hx hy hy' h
def z1n (ht:P.underlying t=some .string)(hx:look e x=some (S l))(hy:look e y=some (.int k za))(h:m<=l.length):
  Y P e ⟨d,.slice t x (some y) none none,ty,pos,aft,g⟩ (S (l.drop m)) w w:=by obtain⟨rfl⟩:=ha;exact zeU ht hx hy h
def z57 (ht:P.underlying t=some .string)(hx:look e x=some (S l))(hy:look e y=some (.int k za))(h:m<=l.length):
  Y P e ⟨d,.slice t x none (some y) none,ty,pos,aft,g⟩ (S (l.take m)) w w:=by obtain⟨rfl⟩:=ha;exact zfz ht hx hy h
end
end
def Yp (P:Program)(e:Env)(o:Oper)(w:World)(Post:Value->World->Prop):Prop:=∃v w',Y P e o v w w'/\Post v w'
def Zp (P:Program)(e:Env)(o:Oper)(w:World)(Post:World->Prop):Prop:=∃w',Z P e o w w'/\Post w'
section
variable {D:RC}{l:List Oper}{e:Env}{w:World}{d:Nat}{op:Op}{ty:TypeId}{pos:String}{aft:Array Edge}{g:Option (Nat×Bool)}
def OP {Post:Value->World->Prop}(ho:Sg D e g true=true)(hd:Nat.blt d D.C.n=true)(hy:Yp D.C.P e ⟨some d,op,ty,pos,aft,g⟩ w Post)(h:∀v w',Post v w'->RL D l ((d,v)::e) w'):
  RL D (⟨some d,op,ty,pos,aft,g⟩::l) e w:=by
 obtain⟨v,w',hy,hp⟩:=hy
 exact Vd ho hd hy (h v w' hp)
def zbu {Post:Value->World->Prop}(ho:Sg D e g true=true)(hy:Yp D.C.P e ⟨none,op,ty,pos,aft,g⟩ w Post)(h:∀v w',Post v w'->RL D l e w'):
  RL D (⟨none,op,ty,pos,aft,g⟩::l) e w:=by
 obtain⟨v,w',hy,hp⟩:=hy
 exact ziq ho hy (h v w' hp)
def OY {Post:World->Prop}(ho:Sg D e g true=true)(hy:Zp D.C.P e ⟨none,op,ty,pos,aft,g⟩ w Post)(h:∀w',Post w'->RL D l e w'):
  RL D (⟨none,op,ty,pos,aft,g⟩::l) e w:=by
 obtain⟨w',hy,hp⟩:=hy
 exact zjG ho hy (h w' hp)
end
section
variable {D:RC}{S:World->Prop}{e:Env}{w:World}{d i fuel:Nat}{op:Op}{ty:TypeId}{pos:String}{aft:Array Edge}{g:Option (Nat×Bool)}{listed:Array Bool}
def Xp {Post:Value->World->Prop}(hi:D.ops[i]? =some ⟨some d,op,ty,pos,aft,g⟩)(ho:Sg D e g true=true)(hd:Nat.blt d D.C.n=true)
  (hy:Yp D.C.P e ⟨some d,op,ty,pos,aft,g⟩ w Post) (h:∀v w',Post v w'->S w'/\RH D S fuel (listed.setIfInBounds i true) ((d,v)::e) w'):Nx D S fuel listed e w i:=by
 obtain⟨v,w',hy,hp⟩:=hy
 exact zi6 hi ho hd hy (h v w' hp).1 (h v w' hp).2
def PJ {Post:World->Prop}(hi:D.ops[i]? =some ⟨none,op,ty,pos,aft,g⟩)(ho:Sg D e g true=true)
  (hy:Zp D.C.P e ⟨none,op,ty,pos,aft,g⟩ w Post) (h:∀w',Post w'->S w'/\RH D S fuel (listed.setIfInBounds i true) e w'):Nx D S fuel listed e w i:=by
 obtain⟨w',hy,hp⟩:=hy
 exact zjI hi ho hy (h w' hp).1 (h w' hp).2
def zbz {Post:Value->World->Prop}(hi:D.ops[i]? =some ⟨none,op,ty,pos,aft,g⟩)(ho:Sg D e g true=true)
  (hy:Yp D.C.P e ⟨none,op,ty,pos,aft,g⟩ w Post) (h:∀v w',Post v w'->S w'/\RH D S fuel (listed.setIfInBounds i true) e w'):Nx D S fuel listed e w i:=by
 obtain⟨v,w',hy,hp⟩:=hy
 exact zhT hi ho hy (h v w' hp).1 (h v w' hp).2
end
theorem Rm (b i j:Nat):(⟨b,i,none⟩:Addr).add j=⟨b,i+j,none⟩:=by
 unfold Addr.add
 split
 ·simp_all
 ·rfl
/-! ### Slices -/
def Rd (w:World)(v:Value)(size n:Nat)(cs:List Value):Prop:=
 cs.length=n*size/\((∃c:Option Addr×Nat,v= .slice c.1 0 c.2/\n=0)\/∃b off cap,v= .slice (some ⟨b,off,none⟩) n cap/\∀j u,cs[j]? =some u->w.cell? ⟨b,off+j,none⟩=some u)
def Sl (w:World)(v:Value)(e:TypeId)(size n:Nat)(cs:List Value):Prop:=w.ownsRow 0 e size v n cs
section
variable {w w':World}{v:Value}{e size n:Nat}{cs:List Value}{S:Nat->Prop}
theorem Sl.len (h:Sl w v e size n cs):cs.length=n*size:=h.1
def Sl.lt (h:Sl w v e size n cs){g:Nat}(hg:v.ownBlock=some g):g<w.heap.size:=(World.ownsRow.lt h g hg).2
theorem Sl.nil (w:World)(e size:Nat):Sl w (.slice none 0 0) e size 0 []:=World.ownsRow_nil w 0 e size
def Sl.kp (h:Sl w v e size n cs)(k:Kp S w w')(hn:∀g,v.ownBlock=some g->¬S g):Sl w' v e size n cs:=by
 refine⟨h.1,?_⟩
 rcases h.2 with hz|⟨g,cap,cur,rfl,hb,hg,r⟩
 ·exact .inl hz
 ·exact .inr ⟨g,cap,cur,rfl,hb,k.heap hg (hn g O),r⟩
def Sl.ext (h:Sl w v e size n cs)(k:Ext w w'):Sl w' v e size n cs:=h.kp k λ_ _=>id
theorem Sl.rd (h:Sl w v e size n cs):Rd w v size n cs:=by
 refine⟨h.1,?_⟩
 rcases h.2 with⟨hz,hn⟩|⟨g,cap,cur,hv,hb,hg,hn,hm,hs,ht⟩
 ·exact .inl ⟨(none,0),hz,hn⟩
 ·refine .inr ⟨g,0,cap,hv,λj u hu=>?_⟩;have hc:=World.ownsRow.cells h (g:=g) (by rw[hv];rfl) j u hu;rw[Rm] at hc;exact hc
def Sl.shape (h:Sl w v e size n cs):(v= .slice none 0 0/\n=0)\/∃g cap,v= .slice (some ⟨g,0,none⟩) n cap/\n<=cap:=by
 rcases h.2 with hz|⟨g,cap,cur,hv,hb,hg,hn,r⟩
 ·exact .inl hz
 ·exact .inr ⟨g,cap,hv,hn⟩
def Rd.kp (h:Rd w v size n cs)(k:Kp S w w')(hn:∀g,v.ownBlock=some g->¬S g):Rd w' v size n cs:=by
 refine⟨h.1,?_⟩
 rcases h.2 with hz|⟨b,off,cap,rfl,hc⟩
 ·exact .inl hz
 ·refine .inr ⟨b,off,cap,rfl,λj u hu=>?_⟩;have h1:=hc j u hu;have hlt:b<w.heap.size:=World.block_lt_of_cell? w _ h1;rw[World.cell?_of_block (w:=w) (a:=⟨b,off+j,none⟩) (k.block b hlt (hn b O))];exact h1
def Rd.ext (h:Rd w v size n cs)(k:Ext w w'):Rd w' v size n cs:=h.kp k λ_ _=>id
def Rd.shape (h:Rd w v size n cs):∃a cap,v= .slice a n cap/\(a=none->n=0):=by
 rcases h.2 with⟨c,hv,hn⟩|⟨b,off,cap,hv,-⟩
 ·subst hn;exact⟨c.1,c.2,hv,λ_=>rfl⟩
 ·exact⟨_,cap,hv,λh=>by cases h⟩
end
def Kp.Uu {w w':World}{row:Option Nat}(h:w.grownBy w' row):Kp (λk=>row=some k) w w':=
 ⟨h.os,h.tape,h.output,h.size,λk hk hn=>h.block k hk λhh=>hn hh.symm⟩
def zcD {P:Program}(w:World)(t ty e:TypeId)(i:TypeInfo)(z:Value)(size bytes:Nat)(ht:P.underlying t=some (.slice e))(hi:P.info? e=some i)(hz:i.zero=some z)
  (hsize:i.size=size) (hby:i.bytes=bytes) (hzs:z.cells.size=size) (hsz:0<size)
  (v:Value) (n:Nat) (xs:List Value) (hown:Sl w v e size n xs) (x:Value) (m:Nat) (news:List Value) (hrd:Rd w x size m news) (h1:∀u∈news,u.oneCell'=true)
  (hbytes:(n+m)*bytes<=140737488355328) (h63:n+m<=maxLen):
  ∃ v' w', (Builtin.append_ #[t, t] ty #[v, x]).run P w = .ok v' w' /\ Sl w' v' e size (n + m) (xs ++ news) /\ Kp (λk => v.ownBlock = some k) w w' /\
    (∀g,v'.ownBlock=some g->v.ownBlock=some g\/w.heap.size<=g)/\(v'= .slice none 0 0↔v= .slice none 0 0/\m=0):=by
 subst hsize
 subst hby
 have hsmall:n+m<=9223372036854775807:=by simp only[maxLen] at h63;omega
 rcases hrd.2 with⟨⟨ca,c⟩,rfl,rfl⟩|⟨b,off,cap,rfl,hcells⟩
 ·have hnil:news=[]:=List.eq_nil_of_length_eq_zero (by simpa using hrd.1);subst hnil
  have hr:(Builtin.append_ #[t,t] ty #[v,.slice ca 0 c]).run P w= .ok v w:=by
   cases ca<;>
   rcases hown.2 with⟨rfl,rfl⟩|⟨g,cap,cur,rfl,hbg,hg,hnc,hcm,hcs,htake⟩
   ·simp[Builtin.append_,run_underlying ht,sizeOf,typeInfo,hi,Builtin.lenOf,Builtin.firstCells]
   ·simp[Builtin.append_,run_underlying ht,sizeOf,typeInfo,hi,Builtin.lenOf,Builtin.firstCells,hnc,storeCells]
   ·simp[Builtin.append_,run_underlying ht,sizeOf,typeInfo,hi,Builtin.lenOf,Builtin.firstCells,loadCells,loadCellsFrom]
   ·simp[Builtin.append_,run_underlying ht,sizeOf,typeInfo,hi,Builtin.lenOf,Builtin.firstCells,hnc,storeCells,loadCells,loadCellsFrom]
  exact⟨v,w,hr,by simpa using hown,Kp.refl _ _,λg hg=> .inl hg,ξ⟩
 ·have hnews:∀j u,news[j]? =some u->w.cell? ((⟨b,off,none⟩:Addr).add j)=some u:=λj u hu=>by rw[Rm];exact hcells j u hu
  rcases hown.2 with⟨rfl,rfl⟩|⟨g,cap',cur,rfl,hbg,hg,hnc,hcm,hcs,htake⟩
  ·have hx:xs=[]:=List.eq_nil_of_length_eq_zero (by simpa using hown.1);subst hx;by_cases hm:m=0
   ·subst hm;have hn:news=[]:=List.eq_nil_of_length_eq_zero (by simpa using hrd.1);subst hn;refine⟨.slice none 0 0,w,?_,Sl.nil w e i.size,Kp.refl _ _,by simp[Value.ownBlock],ξ⟩;simp[Builtin.append_,run_underlying ht,sizeOf,typeInfo,hi,Builtin.lenOf,Builtin.firstCells,loadCells,loadCellsFrom]
   ·have hr:=run_append_nil (P:=P) w t ty e i z ht hi hz ⟨b,off,none⟩ m cap news hrd.1 hnews ω ω (by have hb:=hbytes;simp only[Nat.zero_add] at hb;omega);obtain⟨v',w',hr',ho',hg',hnil'⟩:=run_append_own (P:=P) w w.heap.size t ty e i z i.size i.bytes ht hi hz O O hzs hsz (.slice none 0 0) 0 [] (World.ownsRow_nil w w.heap.size e i.size) ⟨b,off,none⟩ m cap news hrd.1 hnews h1 h63 hbytes (Nat.le_refl _);refine⟨v',w',hr',⟨ho'.1,?_⟩,Kp.Uu hg',λg hg=> .inr (World.ownsRow.lt ho' g hg).1,hnil'⟩;rcases ho'.2 with hz'|⟨g,cap2,cur2,hv2,hb2,hr2⟩
    ·exact .inl hz'
    ·exact .inr ⟨g,cap2,cur2,hv2,Nat.zero_le _,hr2⟩
  ·by_cases hroom:n+m<=cap'
   ·obtain⟨w',hr',ho',hg'⟩:=run_append_fits (P:=P) w 0 t ty e i i.size ht hi O g n cap' xs hown ⟨b,off,none⟩ m cap news hrd.1 hnews h1 hroom;exact⟨_,w',hr',ho',Kp.Uu hg',λg' hg'=> .inl (by simpa[Value.ownBlock] using hg'),ξ⟩
   ·have holds:∀j u,xs[j]? =some u->w.cell? ((⟨g,0,none⟩:Addr).add j)=some u:=World.ownsRow.cells hown (g:=g) O;have hr:=run_append_grow (P:=P) w t ty e i z ht hi hz ⟨g,0,none⟩ n cap' xs hown.1 holds ⟨b,off,none⟩ m cap news hrd.1 hnews ω ω (growslice_fits ω hbytes);have hge:=grownCap_ge w (n+m) cap' e;have hlen:(xs++news).length=(n+m)*i.size:=by rw[List.length_append,hown.1,hrd.1,Nat.add_mul]
    refine⟨_,_,hr,⟨hlen,.inr ⟨w.heap.size,_,_,rfl,Nat.zero_le _,heap_alloc_new w.drew _,hge,grownCap_le_maxLen w (n+m) cap' e h63,?_,?_⟩⟩,?_,λg' hg'=> .inr (by simp[Value.ownBlock] at hg';omega),ξ⟩
    ·simp only[Array.size_append,List.size_toArray,size_zeroCells,hzs,hown.1,hrd.1,<-Nat.add_mul]
     congr 1
     omega
    ·simp only[Array.toList_append,List.append_assoc];rw[<-List.append_assoc,<-hlen];exact List.take_left
    ·exact⟨rfl,rfl,rfl,ξ,λk hk _=>Below.heap_alloc w.drew _ k hk⟩
section
variable {P:Program}{e:Env}{d:Option Nat}{ty t el:TypeId}{pos:String}{aft:Array Edge}{g:Option (Nat×Bool)}{x y:Operand}{w w':World}{k k':IntKind}{m n:Nat}{u v z:Value}{l:List UInt8}{cs news:List Value}{b i size bytes off:Nat}{T:TypeId}{td:TypeDesc}{agg:Bool}
/-! ### Loads and stores -/
def OS (hu:P.underlying t=some td)(ha:aggOf td=false)(hx:look e x=some (ptr b i))(hB:OU w b cs T)(hi:cs[i]? =some v):Y P e ⟨d,.load t x,ty,pos,aft,g⟩ v w w:=fun ρ hρ=>by
 have hc:w.cell? ⟨b,i,none⟩=some v:=by rw[hB.cell];exact hi
 simp only[execOp,hρ _ _ hx,Instr.loadAt,Instr.sureAddr,loadVar,pure_bind,Sem.run_bind,Tc hu,ha,Result.andThen_ok,Bool.false_eq_true,if_false,run_load,hc,Sem.run_pure]
def PC (hu:P.underlying t=some td)(ha:aggOf td=false){a:Addr}(hx:look e x=some (.pointer (some a)))(hc:w.cell? a=some v):Y P e ⟨d,.load t x,ty,pos,aft,g⟩ v w w:=fun ρ hρ=>by
 simp only[execOp,hρ _ _ hx,Instr.loadAt,Instr.sureAddr,loadVar,pure_bind,Sem.run_bind,Tc hu,ha,Result.andThen_ok,Bool.false_eq_true,if_false,run_load,hc,Sem.run_pure]
theorem Pv (hu:P.underlying t=some td)(ha:aggOf td=true)(hs:TI P t z n bytes)(hx:look e x=some (ptr b i))(hc:∀j u,news[j]? =some u->w.cell? ⟨b,i+j,none⟩=some u)(hn:news.length=n):
  Y P e ⟨d,.load t x,ty,pos,aft,g⟩ (.agg news.toArray) w w:=fun ρ hρ=>by
 have hl:=run_loadCells_list (P:=P) w ⟨b,i,none⟩ news (λj v hj=>by rw[Rm];exact hc j v hj)
 rw[hn] at hl
 simp only[execOp,hρ _ _ hx,Instr.loadAt,Instr.sureAddr,loadVar,pure_bind,Sem.run_bind,Tc hu,ha,Result.andThen_ok,if_true,hs.size,hl,Sem.run_pure]
theorem OU.cells (hB:OU w b cs T)(hn:(cs.drop i).take n=news):∀j u,news[j]? =some u->w.cell? ⟨b,i+j,none⟩=some u:=λj u hj=>by
 subst hn
 rw[hB.cell]
 rw[List.getElem?_take] at hj
 split at hj
 ·simpa using hj
 ·cases hj
def oneV:Value->Bool
 | .agg _| .tuple _=>false
 |_=>true
theorem VO (h:oneV v=true):v.cells=#[v]:=by cases v<;>simp_all [oneV,Value.cells]
theorem Yr (h:oneV v=true):v.oneCell'=true:=by cases v<;>simp_all [oneV,Value.oneCell']
theorem QP (hs:TI P t z 1 bytes)(hx:look e x=some (ptr b i))(hy:look e y=some v)(hv:oneV v=true)(hB:OU w b cs T)(hi:i<cs.length):
  Zp P e ⟨d,.store t x y,ty,pos,aft,g⟩ w λw'=>OU w' b (cs.set i v) T/\Kp (λk=>k=b) w w':=by
 refine⟨w.setCell ⟨b,i,none⟩ v,fun ρ hρ=>?_,Wm hB i v,TD w b i v⟩
 have hc:w.cell? ⟨b,i,none⟩=some cs[i]:=by rw[hB.cell];simp[hi]
 have hf:=hB.free hi
 have h0:(⟨b,i,none⟩:Addr).add 0=⟨b,i,none⟩:=by rw[Rm];simp
 simp only[execOp,hρ _ _ hx,hρ _ _ hy,Instr.storeAt,Instr.sureAddr,storeVar,pure_bind,Sem.run_bind,hs.size,Result.andThen_ok,VO hv]
 simp[storeCells,h0,run_store P w _ v _ (Yr hv),hc,hf]
theorem zkz (hs:TI P t z 1 bytes){a:Addr}(hx:look e x=some (.pointer (some a)))(hy:look e y=some v)(hv:oneV v=true)(hc:w.cell? a=some u)(hf:w.frozen? a=false):
  Z P e ⟨d,.store t x y,ty,pos,aft,g⟩ w (w.setCell a v):=fun ρ hρ=>by
 have h0:a.add 0=a:=by simp[Addr.add]
 simp only[execOp,hρ _ _ hx,hρ _ _ hy,Instr.storeAt,Instr.sureAddr,storeVar,pure_bind,Sem.run_bind,hs.size,Result.andThen_ok,VO hv]
 simp[storeCells,h0,run_store P w _ v _ (Yr hv),hc,hf]
def QH (cs:List Value)(i:Nat)(vs:List Value):List Value:=cs.take i++vs++cs.drop (i+vs.length)
theorem T4 {P:Program}{b:Nat}{T:TypeId}(o:Nat):∀(vs:List Value) (i:Nat) (cs:List Value) (w:World),OU w b cs T->o+i+vs.length<=cs.length->(∀v∈vs,v.oneCell'=true)->
  ∃w',(storeCells ⟨b,o,none⟩ vs i).run P w= .ok () w'/\OU w' b (QH cs (o+i) vs) T/\Kp (λk=>k=b) w w'
 |[],i,cs,w,hB,_,_=>⟨w,rfl,by simpa[QH] using hB,Kp.refl _ _⟩
 | v :: r, i, cs, w, hB, hl, h1 => by
   simp only[List.length_cons] at hl;have hlt:o+i<cs.length:=by omega
   have hc:w.cell? ⟨b,o+i,none⟩=some cs[o+i]:=by rw[hB.cell];simp[hlt]
   have hf:=hB.free hlt;obtain⟨w',hr,hB',hk⟩:=T4 (P:=P) o r (i+1) (cs.set (o+i) v) _ (Wm hB (o+i) v) (by simp;omega) (λu hu=>h1 u (List.mem_cons_of_mem _ hu));refine⟨w',?_,?_,(TD w b (o+i) v).trans hk⟩
   ·simp only[storeCells,Sem.run_bind,Rm,run_store P w _ v _ (h1 v (List.mem_cons_self ..)),hc,hf]
    simpa using hr
   ·have he:QH (cs.set (o+i) v) (o+(i+1)) r=QH cs (o+i) (v::r):=by
     simp only[QH,List.length_cons]
     have e1:(cs.set (o+i) v).take (o+(i+1))=cs.take (o+i)++[v]:=by
      rw[show o+(i+1)=(o+i)+1 from by omega,List.take_succ_eq_append_getElem (by simpa using hlt)];simp only[List.take_set,List.getElem_set_self];rw[List.set_eq_of_length_le (by simp;omega)]
     have e2:(cs.set (o+i) v).drop (o+(i+1)+r.length)=cs.drop (o+i+(r.length+1)):=by
      rw[List.drop_set_of_lt ω]
      congr 1
      omega
     rw[e1,e2];simp
    rw[<-he];exact hB'
theorem PL (hs:TI P t z n bytes)(hx:look e x=some (ptr b i))(hy:look e y=some (.agg news.toArray))(hv:news.all oneV=true)(hn:news.length=n)(hB:OU w b cs T)(hi:i+n<=cs.length):
  Zp P e ⟨d,.store t x y,ty,pos,aft,g⟩ w λw'=>OU w' b (QH cs i news) T/\Kp (λk=>k=b) w w':=by
 obtain⟨w',hr,hB',hk⟩:=T4 (P:=P) i news 0 cs w hB ω (λu hu=>Yr (by have:=List.all_eq_true.1 hv u hu;exact this))
 refine⟨w',fun ρ hρ=>?_,by simpa using hB',hk⟩
 simp only[execOp,hρ _ _ hx,hρ _ _ hy,Instr.storeAt,Instr.sureAddr,storeVar,pure_bind,Sem.run_bind,hs.size,Result.andThen_ok,Value.cells]
 simp[hn,hr]
/-! ### New variables -/
def z0d (w:World)(b:Nat)(cs:List Value)(T:TypeId)(w':World):Prop:=b=w.heap.size/\Ext w w'/\OU w' b cs T
def z0d.mk' (w:World)(cs:List Value)(T:TypeId):z0d w w.heap.size cs T (w.alloc (.cells cs.toArray T)):=⟨rfl,Uo w _,zcW w cs T⟩
theorem R6 (hx:look e x=some v)(hv:v.cells=cs.toArray):Yp P e ⟨d,.box t x,ty,pos,aft,g⟩ w λv' w'=>∃b,v'=ptr b 0/\z0d w b cs t w':=by
 refine⟨_,_,fun ρ hρ=>?_,w.heap.size,rfl,z0d.mk' w cs t⟩
 simp[execOp,hρ _ _ hx,Instr.box,newVar,newRow,newObj,Sem.run,hv]
theorem Rz (hs:TI P t z n bytes)(hz:z.cells=cs.toArray):Yp P e ⟨d,.alloc t,ty,pos,aft,g⟩ w λv' w'=>∃b,v'=ptr b 0/\z0d w b cs t w':=by
 refine⟨_,_,fun ρ hρ=>?_,w.heap.size,rfl,z0d.mk' w cs t⟩
 simp[execOp,Instr.alloc,hs.zero,newVar,newRow,newObj,Sem.run,hz]
def pmm:Yp P e ⟨d,.makeMap t none,ty,pos,aft,g⟩ w λv' w'=>∃b,v'= .map (some b)/\b=w.heap.size/\Ext w w'/\w'.heap[b]? =some (.map #[] 0):=by
 refine⟨_,_,fun ρ hρ=>?_,w.heap.size,rfl,rfl,Uo w _,Wo w _⟩
 simp[execOp,Instr.makeMap,newObj,Sem.run]
def bl (pl:Nat->Option (Nat×Nat)):List Value->List (Nat×Value)->Option (List Value)
 |cs,[]=>some cs
 | cs, (i, v) :: r => match pl i with
   |none=>none
   | some (off, size) => match Nat.beq v.cells.toList.length size && Nat.ble (off + size) cs.length with
     |true=>bl pl (QH cs off v.cells.toList) r
     |false=>none
theorem z2v (off:Nat):∀(vs:List Value) (j:Nat) (cs:List Value),off+j+vs.length<=cs.length->
  ((vs.zipIdx j).foldl (λ(cs:Array Value) (p:Value×Nat)=>cs.setIfInBounds (off+p.2) p.1) cs.toArray)=(QH cs (off+j) vs).toArray
 |[],j,cs,_=>by simp[QH]
 | v :: r, j, cs, h => by
   simp only[List.length_cons] at h;simp only[List.zipIdx_cons,List.foldl_cons,List.setIfInBounds_toArray];rw[z2v off r (j+1) (cs.set (off+j) v) (by simp;omega)]
   congr 1
   have hlt:off+j<cs.length:=by omega
   simp only[QH,List.length_cons]
   have e1:(cs.set (off+j) v).take (off+(j+1))=cs.take (off+j)++[v]:=by
    rw[show off+(j+1)=(off+j)+1 from by omega,List.take_succ_eq_append_getElem (by simpa using hlt)];simp only[List.take_set,List.getElem_set_self];rw[List.set_eq_of_length_le (by simp;omega)]
   have e2:(cs.set (off+j) v).drop (off+(j+1)+r.length)=cs.drop (off+j+(r.length+1)):=by
    rw[List.drop_set_of_lt ω]
    congr 1
    omega
   rw[e1,e2];simp
def z0u {pl:Nat->Option (Nat×Nat)}:∀(vs:List (Nat×Value)) (cs cs':List Value),bl pl cs vs=some cs'->Instr.fill pl cs.toArray vs=some cs'.toArray
 |[],cs,cs',h=>by simp[bl] at h;simp[Instr.fill,h]
 | (i, v) :: r, cs, cs', h => by
   simp only[bl] at h;simp only[Instr.fill];split at h
   ·cases h
   ·rename_i off size hpl
    split at h
    ·rename_i hb
     simp only[Bool.and_eq_true] at hb;have h1:v.cells.toList.length=size:=Nat.eq_of_beq_eq_true hb.1;have h2:off+size<=cs.length:=Nat.le_of_ble_eq_true hb.2;simp only[hpl];have hs:v.cells.size=size:=by simpa using h1
     have hc:(decide (v.cells.size≠size) ||decide (off+v.cells.size>cs.toArray.size))=false:=by simp;omega
     rw[if_neg (by rw[hc];simp)];have hf:=z2v off v.cells.toList 0 cs (by simp only[Nat.add_zero];rw[h1];exact h2);simp only[Nat.add_zero] at hf
     have hz:(v.cells.zipIdx.foldl (λ(cs:Array Value) (p:Value×Nat)=>cs.setIfInBounds (off+p.2) p.1) cs.toArray)=(QH cs off v.cells.toList).toArray:=by
      rw[<-Array.foldl_toList,Array.toList_zipIdx];exact hf
     have:=z0u r _ cs' h;rw[<-hz] at this;exact this
    ·cases h
def lookp (e:Env):List (Nat×Operand)->Option (List (Nat×Value))
 |[]=>some []
 | (i, x) :: r => match look e x, lookp e r with
   |some v,some vs=>some ((i,v)::vs)
   |_,_=>none
theorem z2s {e:Env}{ρ:Operand->Value}(hρ:∀x v,look e x=some v->ρ x=v):∀(l:List (Nat×Operand)) (us:List (Nat×Value)),lookp e l=some us->l.map (λp=>(p.1,ρ p.2))=us
 |[],us,h=>by simp[lookp] at h;simp[h]
 | (i, x) :: r, us, h => by
   simp only[lookp] at h;split at h
   ·rename_i v vs hv hvs
    simp at h;subst h;simp[hρ _ _ hv,z2s hρ r vs hvs]
   ·cases h
theorem Zc {e:Env}{ρ:Operand->Value}(hρ:∀x v,look e x=some v->ρ x=v){l:List (Nat×Operand)}{us:List (Nat×Value)}(h:lookp e l=some us):
  (l.toArray.map λx=>match x with|(i,x)=>(i,ρ x))=us.toArray:=by
 apply Array.toList_inj.1
 simp only[Array.toList_map]
 exact z2s hρ l us h
def SP (P:Program)(t:TypeId)(pl:List (Nat×Nat)):Prop:=∃fs:Array Field,P.underlying t=some (.struct fs)/\∀w,(fs.mapM λf=>do pure (f.offset,<-sizeOf f.type):Sem (Array (Nat×Nat))).run P w= .ok pl.toArray w
def Sh {parts:List (Nat×Operand)}{vs:List (Nat×Value)}{pl:List (Nat×Nat)}{zs:List Value}(hs:TI P t z n bytes)(hz:z.cells=zs.toArray)(hpl:SP P t pl)(hp:lookp e parts=some vs)(h:bl (pl[·]?) zs vs=some cs):
  Y P e ⟨d,.build t parts.toArray,ty,pos,aft,g⟩ (.agg cs.toArray) w w:=fun ρ hρ=>by
 obtain⟨fs,h1,h2⟩:=hpl
 have hf:=z0u vs zs cs h
 have hf':Instr.fill (pl.toArray[·]?) z.cells vs=some cs.toArray:=by rw[hz];simpa using hf
 simp only[execOp,Zc hρ hp,Instr.build,Sem.run_bind,hs.zero,Result.andThen_ok,run_underlying h1,h2,hf',Sem.run_pure]
def zch {parts:List (Nat×Operand)}{vs:List (Nat×Value)}{zs:List Value}{len:Nat}{ze:Value}{be:Nat}(hs:TI P t z n bytes)(hz:z.cells=zs.toArray)(ht:P.underlying t=some (.array len el))(he:TI P el ze size be)(hp:lookp e parts=some vs)(h:bl (λi=>some (i*size,size)) zs vs=some cs):
  Y P e ⟨d,.build t parts.toArray,ty,pos,aft,g⟩ (.agg cs.toArray) w w:=fun ρ hρ=>by
 have hf:=z0u vs zs cs h
 rw[<-hz] at hf
 simp only[execOp,Zc hρ hp,Instr.build,Sem.run_bind,hs.zero,Result.andThen_ok,run_underlying ht,he.size,hf,Sem.run_pure]
def Yx {parts:List (Nat×Operand)}{vs:List (Nat×Value)}{len:Nat}{ze:Value}{be:Nat}{zs:List Value}(ht:P.underlying t=some (.slice el))(he:TI P el ze size be)(hsm:Nat.ble (len*size) 16777216=true)
  (hzs:(Array.range (len*size)).map ((if len*size=0 then #[] else ze.cells)[·%(if len*size=0 then #[] else ze.cells).size]!)=zs.toArray) (hp:lookp e parts=some vs) (h:bl (λi=>some (i*size,size)) zs vs=some cs) (hl:cs.length=len*size) (hm:len<=maxLen):
  Yp P e ⟨d,.buildSlice t len parts.toArray,ty,pos,aft,g⟩ w λv' w'=>∃b,v'= .slice (some ⟨b,0,none⟩) len len/\z0d w b cs el w'/\Sl w' v' el size len cs:=by
 refine⟨_,_,fun ρ hρ=>?_,w.heap.size,rfl,z0d.mk' w cs el,⟨hl,.inr ⟨w.heap.size,len,cs.toArray,rfl,Nat.zero_le _,Wo w _,Nat.le_refl _,hm,by simpa using hl,by simp[<-hl]⟩⟩⟩
 have hf:=z0u vs zs cs h
 rw[<-hzs] at hf
 have h24:¬len*size>2^24:=by have:=Nat.le_of_ble_eq_true hsm;omega
 simp only[execOp,Zc hρ hp,Instr.buildSlice,Sem.run_bind,run_underlying ht,Result.andThen_ok,he.size,Sem.run_ite,if_neg h24,Sem.run_pure]
 by_cases h0:len*size=0
 ·simp only[h0,if_true] at hf;simp[Array.range_zero'] at hf;simp[h0,newRow,newObj,Sem.run,Array.range_zero',hf]
 ·simp only[h0,if_false] at hf;simp[h0,newRow,newObj,Sem.run,hf,he.zero]
def z1S (z:Value)(n:Nat)(h:oneV z=true):(madeCells z.cells n).toList=List.replicate n z:=by
 rw[VO h]
 apply List.ext_getElem
 ·simp[madeCells]
 ·intro j h1 h2;simp[madeCells,Nat.mod_one]
theorem pmk {za zb:Int}{c:Nat}[hza:Th za n][hb':Th zb c](ht:P.underlying t=some (.slice el))(hs:TI P el z 1 bytes)(hz:oneV z=true)(hx:look e x=some (.int k za))(hy:look e y=some (.int k' zb))(hnc:n<=c)(hb:bytes*c<=281474976710656)(hm:c<=maxLen):
  Yp P e ⟨d,.makeSlice t x y,ty,pos,aft,g⟩ w λv' w'=>∃b,v'= .slice (some ⟨b,0,none⟩) n c/\z0d w b (List.replicate c z) el w'/\Sl w' v' el 1 n (List.replicate n z):=by
 obtain⟨rfl⟩:=hza
 obtain⟨rfl⟩:=hb'
 obtain⟨i,hi,hiz,his,hib⟩:=hs
 have hr:=run_make (P:=P) w t el i z ht hi hiz k k' n c ω ω (by rw[hib,<-Int.natCast_mul];exact Int.ofNat_le.2 hb) (by simp only[maxLen] at hm;omega)
 have hcells:=z1S z c hz
 have hcells':madeCells z.cells c=(List.replicate c z).toArray:=by rw[<-hcells]
 rw[his] at hr
 simp only[Int.toNat_natCast,Nat.mul_one,hcells'] at hr
 refine⟨_,_,fun ρ hρ=>?_,w.heap.size,rfl,z0d.mk' w (List.replicate c z) el,⟨ξ,.inr ⟨w.heap.size,c,_,rfl,Nat.zero_le _,Wo w _,hnc,hm,ξ,?_⟩⟩⟩
 ·simp only[execOp,hρ _ _ hx,hρ _ _ hy,Sem.run_bind,hr,Result.andThen_ok,Sem.run_pure]
 ·simp[List.take_replicate,Nat.min_eq_left hnc]
/-! ### Addresses, fields, parts -/
theorem Px (hf:Qs P t i off (n+1) agg)(hx:look e x=some (ptr b m)):Y P e ⟨d,.fieldAddr t x i,ty,pos,aft,g⟩ (ptr b (m+off)) w w:=fun ρ hρ=>by
 obtain⟨fs,f,z,bytes,dd,h1,h2,h3,h4,h5,h6⟩:=hf
 have hs:=h4.size (w:=w)
 simp[execOp,hρ _ _ hx,Instr.fieldAt,run_underlying h1,h2,Instr.sureAddr,fieldPlace,hs,Rm,h3]
theorem yfd {vs:Array Value}(hf:Qs P t i off n false)(hx:look e x=some (.agg vs))(hv:vs[off]? =some v):Y P e ⟨d,.field t x i,ty,pos,aft,g⟩ v w w:=fun ρ hρ=>by
 obtain⟨fs,f,z,bytes,dd,h1,h2,h3,h4,h5,h6⟩:=hf
 simp[execOp,hρ _ _ hx,Instr.field,run_underlying h1,h2,part,Tc h5,h6,asAgg,h3,hv]
def yia {za:Int}[hza:Th za n]{len:Nat}(ht:P.underlying t=some (.array len el))(hs:TI P el z size bytes)(hx:look e x=some (ptr b m))(hy:look e y=some (.int k za))(hn:n<len):
  Y P e ⟨d,.indexAddr t x y,ty,pos,aft,g⟩ (ptr b (m+n*size)) w w:=fun ρ hρ=>by
 obtain⟨rfl⟩:=hza
 have h0:(0:Int)<=(n:Int)/\(n:Int)<(len:Int):=by omega
 have hs:=hs.size (w:=w)
 simp[execOp,hρ _ _ hx,hρ _ _ hy,Instr.indexAt,asIntOf,run_underlying ht,Instr.sureAddr,hn,hs,Rm]
def Qc {za:Int}[hza:Th za n]{len cap:Nat}(ht:P.underlying t=some (.slice el))(hs:TI P el z size bytes)(hx:look e x=some (.slice (some ⟨b,m,none⟩) len cap))(hy:look e y=some (.int k za))(hn:n<len):
  Y P e ⟨d,.indexAddr t x y,ty,pos,aft,g⟩ (ptr b (m+n*size)) w w:=fun ρ hρ=>by
 obtain⟨rfl⟩:=hza
 have h0:(0:Int)<=(n:Int)/\(n:Int)<(len:Int):=by omega
 have hs:=hs.size (w:=w)
 simp[execOp,hρ _ _ hx,hρ _ _ hy,Instr.indexAt,asIntOf,run_underlying ht,hn,hs,Rm]
theorem yxa {za:Int}[hza:Th za n]{len:Nat}{vs:Array Value}(ht:P.underlying t=some (.array len el))(hs:TI P el z 1 bytes)(hu:P.underlying el=some td)(ha:aggOf td=false)(hx:look e x=some (.agg vs))(hy:look e y=some (.int k za))(hn:n<len)(hv:vs[n]? =some v):
  Y P e ⟨d,.index t x y,ty,pos,aft,g⟩ v w w:=fun ρ hρ=>by
 obtain⟨rfl⟩:=hza
 have hs:=hs.size (w:=w)
 simp[execOp,hρ _ _ hx,hρ _ _ hy,Instr.index,asIntOf,run_underlying ht,hn,hs,part,Tc hu,ha,hv]
def Ry {vs:Array Value}(hx:look e x=some (.tuple vs))(hv:vs[i]? =some v):Y P e ⟨d,.extract x i,ty,pos,aft,g⟩ v w w:=fun ρ hρ=>by
 simp[execOp,hρ _ _ hx,Instr.extract,hv]
def ync {a:Addr}(hx:look e x=some (.pointer (some a))):Y P e ⟨d,.nilCheck x,ty,pos,aft,g⟩ (.pointer (some a)) w w:=fun ρ hρ=>by simp[execOp,hρ _ _ hx]
def zkp {f:FuncId}{p q:Array Value}(hx:look e x=some (.func (.func f) p q)):Y P e ⟨d,.nilCheck x,ty,pos,aft,g⟩ (.func (.func f) p q) w w:=fun ρ hρ=>by simp[execOp,hρ _ _ hx]
def SI (ht:P.underlying t=some (.slice el)){a:Option Addr}{len cap:Nat}(hx:look e x=some (.slice a len cap)):Y P e ⟨d,.call ⟨.builtin .len,#[x],#[t]⟩,ty,pos,aft,g⟩ (I (len:Int)) w w:=fun ρ hρ=>by
 simp[execOp,resolve,invoke,builtin,hρ _ _ hx,Builtin.len_,run_underlying ht,goInt]
end
/-! ### Calls -/
def CF (P:Program)(f:FuncId):Prop:=∃fn,P.funcs[f]? =some fn/\(fn.name=="runtime.NumGoroutine")=false/\fn.body.isNone=false
section
variable {P:Program}{e:Env}{d:Option Nat}{ty:TypeId}{pos:String}{aft:Array Edge}{g:Option (Nat×Bool)}{w:World}{f:FuncId}
def looks (e:Env):List Operand->Option (List Value)
 |[]=>some []
 | x :: r => match look e x, looks e r with
   |some v,some vs=>some (v::vs)
   |_,_=>none
theorem TH {ρ:Operand->Value}(hρ:∀x v,look e x=some v->ρ x=v):∀(xs:List Operand) (vs:List Value),looks e xs=some vs->xs.map ρ=vs
 |[],vs,h=>by simp[looks] at h;simp[h]
 | x :: r, vs, h => by
   simp only[looks] at h;split at h
   ·rename_i v us hv hus
    simp at h;subst h;simp[hρ _ _ hv,TH hρ r us hus]
   ·cases h
theorem Tx (h:CF P f)(args:Array Value):(callFunc f args).run P w= .ok (.enter f args) w:=by
 obtain⟨fn,h1,h2,h3⟩:=h
 have h2':¬fn.name="runtime.NumGoroutine":=by simpa using h2
 have h3':¬fn.body=none:=by intro hh;simp[hh] at h3
 simp[callFunc,program,Sem.run,h1,h2',h3']
def yc {args:List Operand}{ts:Array TypeId}{vs:List Value}(hf:CF P f)(ha:looks e args=some vs):Yc P e ⟨d,.call ⟨.value (.func f),args.toArray,ts⟩,ty,pos,aft,g⟩ f vs w:=fun ρ hρ=>by
 have h0:ρ (.func f)= .func (.func f) #[] #[]:=hρ _ _ O
 have hm:=TH hρ _ _ ha
 simp[execOp,resolve,h0,Deferred.ofValue,invoke,Tx hf,hm]
def RW {fv:Operand}{args:List Operand}{ts:Array TypeId}{vs p q:List Value}(hf:CF P f)(hv:look e fv=some (.func (.func f) p.toArray q.toArray))(ha:looks e args=some vs):
  Yc P e ⟨d,.call ⟨.value fv,args.toArray,ts⟩,ty,pos,aft,g⟩ f (p++vs++q) w:=fun ρ hρ=>by
 have h0:=hρ _ _ hv
 have hm:=TH hρ _ _ ha
 simp[execOp,resolve,h0,Deferred.ofValue,invoke,Tx hf,hm]
def ZR {first caps:List Operand}{p q:List Value}(hp:looks e first=some p)(hq:looks e caps=some q):Y P e ⟨d,.makeFunc (.func f) first.toArray caps.toArray,ty,pos,aft,g⟩ (.func (.func f) p.toArray q.toArray) w w:=fun ρ hρ=>by
 simp[execOp,Instr.makeFunc,TH hρ _ _ hp,TH hρ _ _ hq]
def pap {t el:TypeId}{x y:Operand}{z:Value}{size bytes n m:Nat}{u v:Value}{cs news:List Value}(ht:P.underlying t=some (.slice el))(hs:TI P el z size bytes)(hzs:z.cells.size=size)(hsz:0<size)
  (hx:look e x=some v) (hy:look e y=some u) (hv:Sl w v el size n cs) (hu:Rd w u size m news) (h1:∀c∈news,c.oneCell'=true) (hb:(n+m)*bytes<=140737488355328) (hm:n+m<=maxLen):
  Yp P e ⟨d,.call ⟨.builtin .append,#[x,y],#[t,t]⟩,ty,pos,aft,g⟩ w λv' w'=>Sl w' v' el size (n+m) (cs++news)/\Kp (λk=>v.ownBlock=some k) w w'/\
   (∀g,v'.ownBlock=some g->v.ownBlock=some g\/w.heap.size<=g)/\(v'= .slice none 0 0↔v= .slice none 0 0/\m=0):=by
 obtain⟨i,hi,hiz,his,hib⟩:=hs
 obtain⟨v',w',hr,hrest⟩:=zcD (P:=P) w t ty el i z size bytes ht hi hiz his hib hzs hsz v n cs hv u m news hu h1 hb hm
 refine⟨v',w',fun ρ hρ=>?_,hrest⟩
 simp[execOp,resolve,invoke,builtin,hρ _ _ hx,hρ _ _ hy,hr]
end
/-! ### Strings and bytes -/
def Tz (c:UInt8):Value:= .int .u8 (c.toNat:Int)
section
variable {P:Program}{e:Env}{d:Option Nat}{ty t t' el:TypeId}{pos:String}{aft:Array Edge}{g:Option (Nat×Bool)}{x:Operand}{w:World}{l:List UInt8}{cs:List Value}{b i n cap:Nat}{T:TypeId}
def zb7 (hs:P.underlying t=some .string)(hd:P.underlying t'=some (.slice el))(he:P.underlying el=some (.int .u8))(hx:look e x=some (S l)):
  Yp P e ⟨d,.convert t t' x,ty,pos,aft,g⟩ w λv' w'=>∃b cap rest,v'= .slice (some ⟨b,0,none⟩) l.length cap/\z0d w b (l.map Tz++rest) el w'/\l.length+rest.length=cap:=by
 have hr:=run_bytes_of_string (P:=P) w t t' el ⟨l.toArray⟩ hs hd he
 rw[T6] at hr
 have hge:=grownCap_ge w l.length 0 el
 have hrow:bytesRow ⟨l.toArray⟩ (grownCap w l.length 0 el)=(l.map Tz++List.replicate (grownCap w l.length 0 el-l.length) (Value.int .u8 0)).toArray:=by
  simp[bytesRow,T6,Tz]
 refine⟨_,w.drew.alloc (.cells (bytesRow ⟨l.toArray⟩ (grownCap w l.length 0 el)) el ((bytesRow ⟨l.toArray⟩ (grownCap w l.length 0 el)).size,(bytesRow ⟨l.toArray⟩ (grownCap w l.length 0 el)).size+1)),fun ρ hρ=>?_,w.heap.size,grownCap w l.length 0 el,List.replicate (grownCap w l.length 0 el-l.length) (Value.int .u8 0),rfl,⟨rfl,?_,?_⟩,by simp;omega⟩
 ·simp only[execOp,hρ _ _ hx,Sem.run_bind,hr,Result.andThen_ok,Sem.run_pure]
 ·exact(Ext.Pa w).trans (Uo w.drew _)
 ·refine⟨_,by rw[<-hrow];exact Wo w.drew _,λj hj=>?_⟩;rw[hrow];simp only[List.size_toArray];omega
def z9H (hs:P.underlying t=some (.slice el))(he:P.underlying el=some (.int .u8))(hd:P.underlying t'=some .string)(hx:look e x=some (.slice (some ⟨b,i,none⟩) n cap))(hB:OU w b cs T)(hl:(cs.drop i).take n=l.map Tz)(hn:l.length=n):
  Y P e ⟨d,.convert t t' x,ty,pos,aft,g⟩ (S l) w w:=fun ρ hρ=>by
 have hc:=hB.cells hl
 have hr:=run_convert_bytes_back (P:=P) w t t' el ⟨b,i,none⟩ cap l hs he hd (λj hj=>by rw[Rm];exact hc j _ (by simp[hj,Tz]))
 rw[hn] at hr
 simp only[execOp,hρ _ _ hx,Sem.run_bind,hr,Result.andThen_ok,Sem.run_pure]
end
/-! ### Results that lie in memory -/
inductive YU (P:Program) (w:World) (e:Env):List ResultVar->List Value->Prop where
 |nil:YU P w e [] []
 |tmp {t:Tmp} {v:Value} {rs:List ResultVar} {vs:List Value} (h:fnd e t=some v) (hr:YU P w e rs vs):YU P w e (.tmp t::rs) (v::vs)
 | cell {x : Tmp} {t : TypeId} {td : TypeDesc} {z : Value} {n bytes b i : Nat} {news : List Value} {rs : List ResultVar} {vs : List Value} (hu : P.underlying t = some td) (ha : aggOf td = true) (hs : TI P t z n bytes)
   (h:fnd e x=some (ptr b i)) (hc:∀j u,news[j]? =some u->w.cell? ⟨b,i+j,none⟩=some u) (hn:news.length=n) (hr:YU P w e rs vs):YU P w e (.cell x t::rs) (.agg news.toArray::vs)
 | cell1 {x : Tmp} {t : TypeId} {td : TypeDesc} {b i : Nat} {v : Value} {rs : List ResultVar} {vs : List Value} (hu : P.underlying t = some td) (ha : aggOf td = false)
   (h:fnd e x=some (ptr b i)) (hc:w.cell? ⟨b,i,none⟩=some v) (hr:YU P w e rs vs):YU P w e (.cell x t::rs) (v::vs)
theorem YU.run {P:Program}{w:World}{e:Env}{n:Nat}{ms:List Dfr}{a:Act}(ha:WO n ms e a):∀{rs:List ResultVar} {vs:List Value},YU P w e rs vs->Sem.run P (rs.mapM (resM a)) w= .ok vs w:=by
 intro rs vs h
 induction h with
 |nil=>simp
 | @tmp t v rs vs h hr ih =>
   have hg:resM a (.tmp t)=pure v:=by simp only[resM];rw[ha.get _ _ h]
   rw[List.mapM_cons,hg]
   simp only[pure_bind,Sem.run_bind,ih,Result.andThen,Sem.run_pure]
 | @cell x t td z n bytes b i news rs vs hu hA hs h hc hn hr ih =>
   have hg:=ha.get _ _ h;have hl:=run_loadCells_list (P:=P) w ⟨b,i,none⟩ news (λj v hj=>by rw[Rm];exact hc j v hj);rw[hn] at hl
   have h1:Sem.run P (resM a (.cell x t)) w= .ok (.agg news.toArray) w:=by
    simp only[resM,hg,asAddr,pure_bind,loadVar,Sem.run_bind,Tc hu,hA,Result.andThen_ok,if_true,hs.size,hl,Sem.run_pure]
   rw[List.mapM_cons]
   simp only[Sem.run_bind,h1,ih,Result.andThen,Sem.run_pure]
 | @cell1 x t td b i v rs vs hu hA h hc hr ih =>
   have hg:=ha.get _ _ h
   have h1:Sem.run P (resM a (.cell x t)) w= .ok v w:=by
    simp only[resM,hg,asAddr,pure_bind,loadVar,Sem.run_bind,Tc hu,hA,Result.andThen_ok,Bool.false_eq_true,if_false,run_load,hc]
   rw[List.mapM_cons];simp only[Sem.run_bind,h1,ih,Result.andThen,Sem.run_pure]
def VN {n:Nat}{ms:List Dfr}{e:Env}{a:Act}(ha:WO n ms e a)(P:Program)(w:World)(fn:Func)(vs:List Value)(h:YU P w e fn.results.toList vs):
  (results fn a.tmps).run P w= .ok (Q0 vs) w:=by
 have hm:=YU.run ha h
 have he:results fn a.tmps=(do
   let us<-fn.results.mapM (resM a)
   pure (if h:us.size=1 then us[0] else .tuple us)):=rfl
 rw[he,<-Array.toArray_toList (xs:=fn.results),List.mapM_toArray]
 simp only[Sem.run_bind,map_eq_pure_bind,hm,Result.andThen,Sem.run_pure]
 cases vs with
 |nil=>simp[Q0]
 | cons v r => cases r with
   |nil=>simp[Q0]
   |cons u r=>simp[Q0]
section
variable {P:Program}{f:FuncId}{R:Value->World->Prop}{n:Nat}{k:List Item}{e:Env}{w:World}{fn:Func}{vs:List Value}
def Po (hf:P.funcs[f]? =some fn)(hr:YU P w e fn.results.toList vs)(hR:WA R (.returned (Q0 vs)) w):Pu ⟨P,f,R,n,none,[],false⟩ (.code .ret::k) e w:=
 YM O hf List.nodup_nil (λ_ h=>by cases h) λa ha=>⟨_,VN ha P w fn vs hr,hR⟩
def Tf {ms:List Dfr}(hn:ms.Nodup)(hm:VI ms w)(hf:P.funcs[f]? =some fn)(hr:YU P (Ro ms w) e fn.results.toList vs)(hR:WA R (.returned (Q0 vs)) (Ro ms w)):Pu ⟨P,f,R,n,none,ms,false⟩ (.code .ret::k) e w:=
 YM O hf hn hm λa ha=>⟨_,VN ha P _ fn vs hr,hR⟩
end
section
variable {P:Program}{e:Env}{d:Option Nat}{ty t t':TypeId}{pos:String}{aft:Array Edge}{g:Option (Nat×Bool)}{x y:Operand}{w:World}{k:IntKind}{za zb:Int}{m n:Nat}[ha:Th za m][hb:Th zb n]
def zgM (hx:look e x=some (.int k za))(hy:look e y=some (.int k zb))(hs:k.signed=false)(hm:m<2^k.bits)(hn:0<n):Y P e ⟨d,.binOp .quo t x y t',ty,pos,aft,g⟩ (.int k ((m / n:Nat):Int)) w w:=fun ρ hρ=>by
 obtain⟨rfl⟩:=ha
 obtain⟨rfl⟩:=hb
 have h0:¬((n:Int)=0):=by omega
 have h1:((m:Int)).tdiv (n:Int)=((m / n:Nat):Int):=by rw[Int.tdiv_eq_ediv_of_nonneg ω];simp
 have h2:=z0L hs (Nat.lt_of_le_of_lt (Nat.div_le_self m n) hm)
 simp only[execOp,eqGuard_quo,binOp_quo,Op.intDiv,hρ _ _ hx,hρ _ _ hy,h0,if_false,pure_bind,Sem.run_pure,h1,h2]
end
def Tv {D:Nat}{w:World}(h:w.heap[D]? =some (.deferred (some []))):VI [.mk D] w:=λd h'=>by
 simp at h';subst h';exact⟨D,rfl,h⟩
def Q8 (w:World)(l:Nat)(o:Obj):Kp (λk=>k=l) w (w.putObj l o):=
 ⟨rfl,rfl,rfl,ξ,λk _ hn=>World.putObj_heap_other hn⟩
def Y0 {w:World}{l:Nat}{o:Obj}(h:w.heap[l]? =some o):l<w.heap.size:=by
 rcases Nat.lt_or_ge l w.heap.size with h'|h'
 ·exact h'
 ·rw[Array.getElem?_eq_none h'] at h;cases h
def Rec (f n:Nat)(e:Env)(ps:Array Tmp)(assign body:Code)(l:Nat)(st:LoopState)(pend:Option Code)(w:World):Prop:=
 ∃r:Loop,w.heap[l]? =some (.loop r)/\r.state=st/\r.pending=pend/\r.fn=f/\r.params=ps/\r.assign=assign/\r.body=body/\r.tmps.size=n/\∀i v,fnd e i=some v->r.tmps.getD i undef=v
def Rec.lt {f n:Nat}{e:Env}{ps:Array Tmp}{assign body:Code}{l:Nat}{st:LoopState}{pend:Option Code}{w:World}(h:Rec f n e ps assign body l st pend w):l<w.heap.size:=by
 obtain⟨r,h,-⟩:=h;exact Y0 h
def Kp.zkF {S:Nat->Prop}{w w':World}{f n:Nat}{e:Env}{ps:Array Tmp}{assign body:Code}{l:Nat}{st:LoopState}{pend:Option Code}(k:Kp S w w')(h:Rec f n e ps assign body l st pend w)(hn:¬S l):Rec f n e ps assign body l st pend w':=by
 obtain⟨r,h,hr⟩:=h
 exact⟨r,k.heap h hn,hr⟩
def Kp.rc {S:Nat->Prop}{w w':World}{f n:Nat}{e:Env}{ps:Array Tmp}{assign body:Code}{l:Nat}{st:LoopState}{pend:Option Code}{Rc:LoopState->Option Code->World->Prop}(k:Kp S w w')(hRc:Rc=Rec f n e ps assign body l)(h:Rc st pend w)(hn:¬S l):Rc st pend w':=by
 subst hRc;exact k.zkF h hn
def zaH {w:World}{f n:Nat}{e:Env}{ps:Array Tmp}{assign body:Code}{l:Nat}{st:LoopState}{pend:Option Code}{Rc:LoopState->Option Code->World->Prop}(hRc:Rc=Rec f n e ps assign body l)(h:Rc st pend w):l<w.heap.size:=by
 subst hRc;exact h.lt
def z26 (P:Program)(l:Nat)(args:List Value)(w:World)(S:Value->World->Prop):Prop:=
 ∃ r : Loop, w.heap[l]? = some (.loop r) /\ args.length = r.params.size /\
   RoundIn Fence.wide 0 P l r.fn ((r.params.zip args.toArray).foldl (λtmps (t,a)=>tmps.setIfInBounds t a) r.tmps) r.assign r.body w (WA S)
def z26.mono {P:Program}{l:Nat}{args:List Value}{w:World}{S S':Value->World->Prop}(h:z26 P l args w S)(hs:∀v w',S v w'->S' v w'):z26 P l args w S':=by
 obtain⟨r,h1,h2,h3⟩:=h
 exact⟨r,h1,h2,h3.mono λx w' ⟨v,hx,hv⟩=>⟨v,hx,hs _ _ hv⟩⟩
def zbv:List Tmp->List Value->Env->Env
 |p::ps,v::vs,e=>zbv ps vs ((p,v)::e)
 |_,_,e=>e
def z86 {n:Nat}:∀(ps:List Tmp) (vs:List Value) (e:Env) (t:Array Value),ps.all (Nat.blt · n)=true->t.size=n->(∀i v,fnd e i=some v->t.getD i undef=v)->
  ((ps.zip vs).foldl (λtmps (t,a)=>tmps.setIfInBounds t a) t).size=n/\∀i v,fnd (zbv ps vs e) i=some v->((ps.zip vs).foldl (λtmps (t,a)=>tmps.setIfInBounds t a) t).getD i undef=v
 |[],_,e,t,_,hs,h=>⟨hs,h⟩
 |_::_,[],e,t,_,hs,h=>⟨hs,h⟩
 | p :: ps, v :: vs, e, t, hp, hs, h => by
   simp only[List.all_cons,Bool.and_eq_true] at hp;have h1:=(WO.put (n:=n) (ms:=[]) (e:=e) (a:=⟨t,[]⟩) ⟨hs,rfl,h⟩ hp.1 v);exact z86 ps vs _ _ hp.2 h1.size h1.get
def Si {P:Program}{f n l:Nat}{w:World}{S:Value->World->Prop}{e:Env}{ps:List Tmp}{assign body:Code}{args:List Value}{st:LoopState}{pend:Option Code}
  {Rc:LoopState->Option Code->World->Prop} (hRc:Rc=Rec f n e ps.toArray assign body l) (hrec:Rc st pend w) (hl:args.length=ps.length) (hps:ps.all (Nat.blt · n)=true)
  (h:Pu ⟨P,f,S,n,some l,[],false⟩ [.code assign,.beginRound,.code body] (zbv ps args e) w):z26 P l args w S:=by
 subst hRc
 obtain⟨r,hr,-,-,rfl,hp,rfl,rfl,hsz,hget⟩:=hrec
 refine⟨r,hr,by rw[hp,hl];simp,trivial,λc cs _=>?_⟩
 let b:Frame:={(default:Frame) with fn:=r.fn,kind:= .normal,roundOf:=some l}
 have hz:(r.params.zip args.toArray).foldl (λtmps (t,a)=>tmps.setIfInBounds t a) r.tmps=(ps.zip args).foldl (λtmps (t,a)=>tmps.setIfInBounds t a) r.tmps:=by
  rw[hp,List.zip_toArray,List.foldl_toArray]
 have hb0:∀tmps,Frame.round l r.fn tmps r.assign r.body .normal=b.atR {tmps:=tmps,defers:=[]} [.code r.assign,.beginRound,.code r.body]:=λtmps=>by
  simp[Frame.round,Frame.atR,b]
 have hb:=z86 ps args e r.tmps hps hsz hget
 rw[hz,hb0]
 obtain⟨x,w',hR,hc⟩:=h ⟨_,[]⟩ ⟨hb.1,rfl,hb.2⟩ b O O O (c::cs) c cs O
 exact⟨x,w',hR,comesIn_wide.2 hc⟩
section
variable {C:Cx}{k:List Item}{e:Env}{w:World}{f n:Nat}{e0:Env}{ps:Array Tmp}{assign body:Code}{l:Nat}{pend:Option Code}
def z2R {r:Loop}(h:w.heap[l]? =some (.loop r))(h4:r.fn=f)(h5:r.params=ps)(h6:r.assign=assign)(h7:r.body=body)(h8:r.tmps.size=n)(h9:∀i v,fnd e0 i=some v->r.tmps.getD i undef=v)(st':LoopState)(pend':Option Code):
  Rec f n e0 ps assign body l st' pend' (w.putObj l (.loop {r with state:=st',pending:=pend'})):=
 ⟨_,World.putObj_heap_same (Y0 h),rfl,rfl,h4,h5,h6,h7,h8,h9⟩
def run_beginRound (hrd:C.rd=some l){Rc:LoopState->Option Code->World->Prop}(hRc:Rc=Rec f n e0 ps assign body l)(hrec:Rc .ready pend w)(h:∀w',Rc .busy pend w'->Kp (λk=>k=l) w w'->Pu C k e w'):Pu C (.beginRound::k) e w:=by
 subst hRc
 obtain⟨r,h1,h2,h3,h4,h5,h6,h7,h8,h9⟩:=hrec
 refine λa ha b hb hk hro cs=>?_
 have hbr:=Go.run_beginRound (P:=C.P) h1 h2
 have hre:Rec f n e0 ps assign body l .busy pend (w.putObj l (.loop {r with state:= .busy})):=by
  rw[<-h3];exact z2R h1 h4 h5 h6 h7 h8 h9 .busy r.pending
 exact(h _ hre (Q8 w l _) a ha b hb hk hro cs).of_steps (.one (stepR_beginRound (hro.trans hrd) hbr))
end
section
variable {P:Program}{g:Nat}{S:Value->World->Prop}{m:Nat}{k:List Item}{e:Env}{w:World}{f n:Nat}{e0:Env}{ps:Array Tmp}{assign body:Code}{l:Nat}{st:LoopState}{pend:Option Code}
def RF {Rc:LoopState->Option Code->World->Prop}(hRc:Rc=Rec f n e0 ps assign body l)(hrec:Rc st pend w)(h:∀w',Rc .ready none w'->Kp (λk=>k=l) w w'->S (.bool true) w'):Pu ⟨P,g,S,m,some l,[],false⟩ [] e w:=by
 subst hRc
 obtain⟨r,h1,h2,h3,h4,h5,h6,h7,h8,h9⟩:=hrec
 intro a ha b hb hk hro cs c cs' hcs
 subst hcs
 exact⟨.returned (.bool true),_,⟨_,rfl,h _ (z2R h1 h4 h5 h6 h7 h8 h9 .ready none) (Q8 w l _)⟩,.one (stepR_round_end hro hk (run_endRound none h1))⟩
def Tl {Rc:LoopState->Option Code->World->Prop}(hRc:Rc=Rec f n e0 ps assign body l)(hrec:Rc st pend w)(h:∀w',Rc .done (some .ret) w'->Kp (λk=>k=l) w w'->S (.bool false) w'):Pu ⟨P,g,S,m,some l,[],false⟩ (.code .ret::k) e w:=by
 subst hRc
 obtain⟨r,h1,h2,h3,h4,h5,h6,h7,h8,h9⟩:=hrec
 intro a ha b hb hk hro cs c cs' hcs
 subst hcs
 exact⟨.returned (.bool false),_,⟨_,rfl,h _ (z2R h1 h4 h5 h6 h7 h8 h9 .done (some .ret)) (Q8 w l _)⟩,.one (stepR_round_ret hro hk (run_endRound (some .ret) h1))⟩
def RI {ps:List Tmp}{ms:List Dfr}{fv:Operand}{gf:FuncId}{p q:List Value}(hg:look e fv=some (.func (.func gf) p.toArray q.toArray))(hf:CF P gf)
  (hcall:∀l w1,Ext w w1->l=w.heap.size+1->w1.heap.size=w.heap.size+2->w1.heap[w.heap.size]? =some (.deferred (some []))->∀Rc,Rc=Rec f n e ps.toArray assign body l->Rc .ready none w1->
   Ps P gf (p++[.func (.yield l) #[] #[]]++q) w1 λv w2=>∃st pend,Rc st pend w2/\st≠ .busy/\
    ∀w3,Kp (λk=>k=l) w2 w3->Pu ⟨P,f,S,n,none,.mk w.heap.size::ms,false⟩ ((pend.map Item.code).toList++k) e w3):
  Pu ⟨P,f,S,n,none,ms,false⟩ (.code (.rangeFunc fv ps.toArray assign body)::k) e w:=by
 intro a ha b hb hk hro cs
 have hev:a.eval fv= .func (.func gf) p.toArray q.toArray:=ha.look hg
 have he:=run_enterLoop_outer (P:=P) (w:=w) b.fn a.tmps ps.toArray assign body
 have hro':b.roundOf=none:=hro
 rw[<-hro'] at he
 obtain⟨w1,hw1⟩:∃w1,(w.alloc (.deferred (some []))).alloc (.loop {state:= .ready,pending:=none,fn:=b.fn,tmps:=a.tmps,params:=ps.toArray,assign,body,defers:=w.heap.size})=w1:=⟨_,rfl⟩
 have hx1:Ext w w1:=by rw[<-hw1];exact(Uo w _).trans (Uo _ _)
 have hs1:w1.heap.size=w.heap.size+2:=by rw[<-hw1];simp
 have hD:w1.heap[w.heap.size]? =some (.deferred (some [])):=by
  rw[<-hw1];refine(Uo _ _).block _ ξ id |>.trans ?_;exact World.alloc_heap_new w _
 have hre:Rec f n e ps.toArray assign body (w.heap.size+1) .ready none w1:=by
  refine⟨_,by rw[<-hw1];have:=World.alloc_heap_new (w.alloc (.deferred (some []))) (.loop {state:= .ready,pending:=none,fn:=b.fn,tmps:=a.tmps,params:=ps.toArray,assign,body,defers:=w.heap.size});simpa using this,rfl,rfl,hb,rfl,rfl,rfl,ha.size,ha.get⟩
 rw[hw1] at he
 have hres:(resolve a.eval (rangeCall fv (w.heap.size+1)) 0).run P w1= .ok {target:= .fn (.func gf) q.toArray,args:=p.toArray++#[.func (.yield (w.heap.size+1)) #[] #[]]} w1:=by
  have hcv:∀v,a.eval (.const v)=v:=λ_=>rfl
  generalize a.eval=ρ at hev hcv⊢
  simp[rangeCall,resolve,hev,hcv,Deferred.ofValue]
 have hinv:(invoke (.fn (.func gf) q.toArray) (p.toArray++#[Value.func (.yield (w.heap.size+1)) #[] #[]])).run P w1= .ok (.enter gf (p++[Value.func (.yield (w.heap.size+1)) #[] #[]]++q).toArray) w1:=by
  simp[invoke,Tx hf]
 have henter:=stepR_rangeFunc (P:=P) (b:=b) (a:=a) (k:=k) (cs:=cs) (w:=w) he hres hinv
 have hc:=hcall (w.heap.size+1) w1 hx1 O hs1 hD _ O hre
 obtain⟨x,w3,fr,⟨v,hxv,st,pend,hrec3,hst,hk3⟩,hcomes,hfn,hleave⟩:=hc (b.atR {a with defers:=[{target:= .collected w.heap.size,args:=#[]}]++a.defers} (.inRangeFunc (w.heap.size+1)::k)::cs)
 subst hxv
 obtain⟨r,r1,r2,r3,r4,r5,r6,r7,r8,r9⟩:=hrec3
 have hend:=run_endLoop (P:=P) r1 (by rw[r2];exact hst)
 have s1:=step_leave_returned hleave (c:=b.atR {a with defers:=[{target:= .collected w.heap.size,args:=#[]}]++a.defers} (.inRangeFunc (w.heap.size+1)::k)) (cs:=cs)
 rw[finish_atR_inRangeFunc] at s1
 have s2:=stepR_endRangeFunc (P:=P) (b:=b) (a:={a with defers:=[{target:= .collected w.heap.size,args:=#[]}]++a.defers}) (k:=k) (cs:=cs) hend
 rw[r3] at s2
 refine ZM.of_steps (Steps.trans (.one henter) (Steps.trans hcomes (Steps.trans (.one s1) (.one s2)))) ?_
 exact hk3 _ (Q8 w3 _ _) ⟨a.tmps,[{target:= .collected w.heap.size,args:=#[]}]++a.defers⟩ ⟨ha.size,by show [_]++a.defers=_;rw[ha.defers];rfl,ha.get⟩ b hb hk hro cs
end
/-! ### The call of yield -/
def Yy (P:Program)(e:Env)(o:Oper)(l:Nat)(args:List Value)(w:World):Prop:=
 ∀ρ:Operand->Value,(∀x v,look e x=some v->ρ x=v)->(execOp ρ o).run P w=(Instr.yield l args.toArray).run P w
section
variable {D:RC}{rest:List Oper}{e:Env}{w w':World}{d:Nat}{op:Op}{ty:TypeId}{pos:String}{aft:Array Edge}{g:Option (Nat×Bool)}{l:Nat}{args:List Value}{S:Value->World->Prop}
def yy {P:Program}{d:Option Nat}{fv:Operand}{args:List Operand}{ts:Array TypeId}{vs:List Value}(hv:look e fv=some (.func (.yield l) #[] #[]))(ha:looks e args=some vs):
  Yy P e ⟨d,.call ⟨.value fv,args.toArray,ts⟩,ty,pos,aft,g⟩ l vs w:=fun ρ hρ=>by
 have h0:=hρ _ _ hv
 have hm:=TH hρ _ _ ha
 simp[execOp,resolve,h0,Deferred.ofValue,invoke,hm]
def zbf {rd:Option Nat}{P:Program}{f:FuncId}{tmps:Array Value}{assign body:Code}{R:Ending->World->Prop}(h:RoundIn Fence.wide 0 P l f tmps assign body w R):RoundIn (WF rd) 0 P l f tmps assign body w R:=h
def z3F (ho:Sg D e g true=true)(hd:Nat.blt d D.C.n=true)(hy:Yy D.C.P e ⟨some d,op,ty,pos,aft,g⟩ l args w)(hc:z26 D.C.P l args w S)
  (h:∀v w',S v w'->RL D rest ((d,v)::e) w'):RL D (⟨some d,op,ty,pos,aft,g⟩::rest) e w:=λa ha=>by
 refine wpList_want (RX ha ho) ⟨λ_ _=>trivial,?_⟩
 have h1:=hy a.eval (λx v hx=>ha.look hx)
 obtain⟨r,hr,hl,hR⟩:=hc
 rw[run_yield hr (by simpa using hl)] at h1
 rw[Um h1 (λ_ h=>by cases h)]
 exact⟨YL,zbf (hR.mono λx w' ⟨v,hx,hv⟩=>by subst hx;exact h v w' hv _ (ha.put hd v))⟩
end
structure Ky (P:Program)(kt:TypeId){κ:Type}[DecidableEq κ](K:κ->Value):Prop where
 same:∃td,P.underlying kt=some td/\(∀a b,Instr.sameNow td (K a) (K b)=some (decide (a=b)))/\∀w e n a,(Instr.checkKey e (n+1) kt (K a)).run P w= .ok () w
 bits:∀a,Instr.sameBits 10000 (K a) (K a)=true
def Sc {P:Program}{kt:TypeId}{k:IntKind}(h:P.underlying kt=some (.int k)):Ky P kt (λz:Int=>Value.int k z):=by
 refine⟨⟨_,h,λa b=>?_,λw e n a=>?_⟩,λa=>?_⟩
 ·have:(a==b)=decide (a=b):=by by_cases hab:a=b<;>simp[hab]
  simp[Instr.sameNow,this]
 ·simp[Instr.checkKey,run_underlying h]
 ·simp[Instr.sameBits]
section
variable {κ:Type}[DecidableEq κ]
def Re:List (κ×Value)->κ->Option Value
 |[],_=>none
 |(a,v)::r,k=>if k=a then some v else Re r k
def putL:List (κ×Value)->κ->Value->List (κ×Value)
 |[],k,v=>[(k,v)]
 |(a,u)::r,k,v=>if k=a then(a,v)::r else(a,u)::putL r k v
theorem zbj (kv:List (κ×Value))(k:κ)(v:Value)(x:κ):Re (putL kv k v) x=if x=k then some v else Re kv x:=by
 induction kv with
 |nil=>simp[putL,Re]
 | cons p r ih =>
   obtain⟨a,u⟩:=p;simp only[putL];by_cases h:k=a
   ·subst h;simp only[if_true,Re];by_cases hx:x=k<;>simp[hx]
   ·simp only[h,if_false,Re,ih];by_cases hx:x=a
    ·subst hx;simp[Ne.symm h]
    ·simp[hx]
def z0Z {kv:List (κ×Value)}{k:κ}(h:Re kv k=none):k∉kv.map (·.1):=by
 induction kv with
 |nil=>simp
 | cons p r ih =>
   obtain⟨a,u⟩:=p;simp only[Re] at h;split at h
   ·cases h
   ·rename_i hne
    simp only[List.map_cons,List.mem_cons,not_or];exact⟨hne,ih h⟩
theorem z2w (kv:List (κ×Value))(k:κ)(v:Value):(Re kv k).isSome=true->(putL kv k v).map (·.1)=kv.map (·.1):=by
 induction kv with
 |nil=>simp[Re]
 | cons p r ih =>
   obtain⟨a,u⟩:=p;simp only[putL,Re];by_cases h:k=a
   ·simp[h]
   ·simp only[h,if_false];intro hh;simp[ih hh]
theorem UC (kv:List (κ×Value))(k:κ)(v:Value):Re kv k=none->putL kv k v=kv++[(k,v)]:=by
 induction kv with
 |nil=>simp[putL]
 | cons p r ih =>
   obtain⟨a,u⟩:=p;simp only[putL,Re];by_cases h:k=a
   ·simp[h]
   ·simp only[h,if_false];intro hh;simp[ih hh]
def Uc (K:κ->Value)(es:List MapEntry)(kv:List (κ×Value)):Prop:=es.map (λe=>(e.key,e.val))=kv.map (λp=>(K p.1,p.2))
def Wp (K:κ->Value)(w:World)(m:Nat)(kv:List (κ×Value)):Prop:=(∃es clock,w.heap[m]? =some (.map es clock)/\Uc K es.toList kv)/\(kv.map (·.1)).Nodup
def Wp.lt {K:κ->Value}{w:World}{m:Nat}{kv:List (κ×Value)}(h:Wp K w m kv):m<w.heap.size:=by
 obtain⟨⟨es,c,h,-⟩,-⟩:=h;exact Y0 h
theorem Kp.map {K:κ->Value}{S:Nat->Prop}{w w':World}{m:Nat}{kv:List (κ×Value)}(k:Kp S w w')(h:Wp K w m kv)(hn:¬S m):Wp K w' m kv:=by
 obtain⟨⟨es,c,h,he⟩,hd⟩:=h
 exact⟨⟨es,c,k.heap h hn,he⟩,hd⟩
theorem Ext.map {K:κ->Value}{w w':World}{m:Nat}{kv:List (κ×Value)}(k:Ext w w')(h:Wp K w m kv):Wp K w' m kv:=Kp.map k h id
theorem VS {td:TypeDesc}{K:κ->Value}(hs:∀a b,Instr.sameNow td (K a) (K b)=some (decide (a=b))):∀{es:List MapEntry} {kv:List (κ×Value)} (i:Nat) {k:κ},Uc K es kv->Re kv k=none->
  Instr.findNow td (K k) es i=some none
 |[],[],_,_,_,_=>rfl
 | e :: es, (a, v) :: kv, i, k, h, hg => by
   simp only[Uc,List.map_cons,List.cons.injEq,Prod.mk.injEq] at h;simp only[Re] at hg;split at hg
   ·cases hg
   ·rename_i hne
    simp only[Instr.findNow,h.1.1,hs,hne,decide_false]
    exact VS hs (i+1) h.2 hg
 |[],_::_,_,_,h,_=>by simp[Uc] at h
 |_::_,[],_,_,h,_=>by simp[Uc] at h
def Yf {td:TypeDesc}{K:κ->Value}(hs:∀a b,Instr.sameNow td (K a) (K b)=some (decide (a=b))):∀{es:List MapEntry} {kv:List (κ×Value)} (i:Nat) {k:κ} {v:Value},Uc K es kv->Re kv k=some v->
  ∃j,Instr.findNow td (K k) es i=some (some (i+j,v))/\(∃e,es[j]? =some e/\e.key=K k)/\∀u,Uc K (es.modify j λe=>{e with key:=K k,val:=u}) (putL kv k u)
 | e :: es, (a, v') :: kv, i, k, v, h, hg => by
   simp only[Uc,List.map_cons,List.cons.injEq,Prod.mk.injEq] at h;simp only[Re] at hg;split at hg
   ·rename_i he
    subst he;cases hg;refine⟨0,by simp[Instr.findNow,h.1.1,hs,h.1.2],⟨e,rfl,h.1.1⟩,λu=>?_⟩;simp only[Uc,putL,if_true,List.modify_cons,List.map_cons,List.modify_zero_cons];simp[h.2]
   ·rename_i hne
    obtain⟨j,h1,⟨e',h2,h3⟩,h4⟩:=Yf hs (i+1) h.2 hg;refine⟨j+1,?_,⟨e',by simpa using h2,h3⟩,λu=>?_⟩
    ·simp only[Instr.findNow,h.1.1,hs,hne,decide_false,h1]
     congr 3;omega
    ·simp only[putL,hne,if_false,List.modify_succ_cons,Uc,List.map_cons,List.cons.injEq,Prod.mk.injEq]
     exact⟨h.1,h4 u⟩
 |[],[],_,_,_,_,hg=>by simp[Re] at hg
 |[],_::_,_,_,_,h,_=>by simp[Uc] at h
 |_::_,[],_,_,_,h,_=>by simp[Uc] at h
variable {P:Program}{e:Env}{d:Option Nat}{ty t kt el:TypeId}{pos:String}{aft:Array Edge}{g:Option (Nat×Bool)}{x y u:Operand}{w:World}{m:Nat}{kv:List (κ×Value)}{K:κ->Value}{z:Value}{size bytes:Nat}{k:κ}{v:Value}
def Ug (hK:Ky P kt K){es:Array MapEntry}(h:Uc K es.toList kv)(hg:Re kv k=none):(Instr.findKey kt (K k) es.toList).run P w= .ok none w:=by
 obtain⟨⟨td,hu,hs,-⟩,-⟩:=hK
 simp[Instr.findKey,run_underlying hu,VS hs 0 h hg]
def Ue (hK:Ky P kt K){es:Array MapEntry}(h:Uc K es.toList kv)(hg:Re kv k=some v):
  ∃j,(Instr.findKey kt (K k) es.toList).run P w= .ok (some (j,v)) w/\(∃e,es[j]? =some e/\e.key=K k)/\∀u,Uc K (es.modify j λe=>{e with key:=K k,val:=u}).toList (putL kv k u):=by
 obtain⟨⟨td,hu,hs,-⟩,-⟩:=hK
 obtain⟨j,h1,h2,h3⟩:=Yf hs 0 h hg
 refine⟨j,?_,by simpa using h2,λu=>by simpa using h3 u⟩
 simp[Instr.findKey,run_underlying hu,h1]
theorem zk7 (ht:P.underlying t=some (.map kt el))(hK:Ky P kt K)(hz:TI P el z size bytes)(hx:look e x=some (.map (some m)))(hy:look e y=some (K k))(hm:Wp K w m kv):
  Y P e ⟨d,.lookup t x y true,ty,pos,aft,g⟩ (.tuple #[(Re kv k).getD z,.bool (Re kv k).isSome]) w w:=fun ρ hρ=>by
 obtain⟨⟨es,c,hh,he⟩,-⟩:=hm
 have hzv:=hz.zero (w:=w)
 have hck:=λb=>hK.same.choose_spec.2.2 w b 9999 k
 have hg:(getObj m).run P w= .ok (.map es c) w:=by simp[getObj,Sem.run,hh]
 cases hgk:Re kv k with
 | none =>
   have hf:=Ug (P:=P) (w:=w) hK he hgk
   simp[execOp,hρ _ _ hx,hρ _ _ hy,Instr.lookup,run_underlying ht,hg,hck,hf,hzv]
 | some v =>
   obtain⟨j,hf,-⟩:=Ue (P:=P) (w:=w) hK he hgk;simp[execOp,hρ _ _ hx,hρ _ _ hy,Instr.lookup,run_underlying ht,hg,hck,hf]
theorem ylk (ht:P.underlying t=some (.map kt el))(hK:Ky P kt K)(hz:TI P el z size bytes)(hx:look e x=some (.map (some m)))(hy:look e y=some (K k))(hm:Wp K w m kv):
  Y P e ⟨d,.lookup t x y false,ty,pos,aft,g⟩ ((Re kv k).getD z) w w:=fun ρ hρ=>by
 obtain⟨⟨es,c,hh,he⟩,-⟩:=hm
 have hzv:=hz.zero (w:=w)
 have hck:=λb=>hK.same.choose_spec.2.2 w b 9999 k
 have hg:(getObj m).run P w= .ok (.map es c) w:=by simp[getObj,Sem.run,hh]
 cases hgk:Re kv k with
 | none =>
   have hf:=Ug (P:=P) (w:=w) hK he hgk
   simp[execOp,hρ _ _ hx,hρ _ _ hy,Instr.lookup,run_underlying ht,hg,hck,hf,hzv]
 | some v =>
   obtain⟨j,hf,-⟩:=Ue (P:=P) (w:=w) hK he hgk;simp[execOp,hρ _ _ hx,hρ _ _ hy,Instr.lookup,run_underlying ht,hg,hck,hf]
def zmu (ht:P.underlying t=some (.map kt el))(hK:Ky P kt K)(hx:look e x=some (.map (some m)))(hy:look e y=some (K k))(hu:look e u=some v)(hm:Wp K w m kv):
  Zp P e ⟨d,.mapUpdate t x y u,ty,pos,aft,g⟩ w λw'=>Wp K w' m (putL kv k v)/\Kp (λi=>i=m) w w':=by
 have hlt:=hm.lt
 obtain⟨⟨es,c,hh,he⟩,hd⟩:=hm
 have hck:=λb=>hK.same.choose_spec.2.2 w b 9999 k
 have hg:(getObj m).run P w= .ok (.map es c) w:=by simp[getObj,Sem.run,hh]
 have hset:∀o,(setObj m o).run P w= .ok () (w.putObj m o):=λo=>by simp[setObj,Sem.run,hh,World.putObj]
 cases hgk:Re kv k with
 | none =>
   have hf:=Ug (P:=P) (w:=w) hK he hgk;refine⟨w.putObj m (.map (es.push {key:=K k,val:=v,born:=c}) (c+1)),fun ρ hρ=>?_,⟨⟨_,_,World.putObj_heap_same hlt,?_⟩,?_⟩,Q8 w m _⟩
   ·simp[execOp,hρ _ _ hx,hρ _ _ hy,hρ _ _ hu,Instr.mapUpdate,run_underlying ht,hg,hck,hf,hset]
   ·rw[UC _ _ _ hgk]
    simpa[Uc] using he
   ·rw[UC _ _ _ hgk,List.map_append,List.nodup_append];refine⟨hd,ξ,λa ha b hb hab=>?_⟩;simp at hb;subst hb;subst hab
    exact z0Z hgk ha
 | some v0 =>
   obtain⟨j,hf,⟨ej,hej,hkey⟩,hents⟩:=Ue (P:=P) (w:=w) hK he hgk;refine⟨w.putObj m (.map (es.modify j λe=>{e with key:=K k,val:=v}) c),fun ρ hρ=>?_,⟨⟨_,_,World.putObj_heap_same hlt,hents v⟩,?_⟩,Q8 w m _⟩
   ·simp[execOp,hρ _ _ hx,hρ _ _ hy,hρ _ _ hu,Instr.mapUpdate,run_underlying ht,hg,hck,hf,hset,hej,hkey,Instr.keyThatStays,hK.bits]
   ·rw[z2w _ _ _ (by rw[hgk];rfl)];exact hd
end
def z4B (l:List UInt8)(rest:List Value)(n:Nat)(hn:n=l.length):((l.map Tz++rest).drop 0).take n=l.map Tz:=by
 subst hn;simp
theorem Sl.part {w:World}{g n cap e size i k:Nat}{cs news:List Value}(h:Sl w (.slice (some ⟨g,0,none⟩) n cap) e size n cs)(hn:(cs.drop i).take k=news):∀j u,news[j]? =some u->w.cell? ⟨g,0+i+j,none⟩=some u:=λj u hj=>by
 have hc:=World.ownsRow.cells h (g:=g) O (i+j) u (by
  subst hn;rw[List.getElem?_take] at hj;split at hj
  ·rwa [List.getElem?_drop] at hj
  ·cases hj)
 rw[Rm] at hc
 rw[show 0+i+j=0+(i+j) by omega]
 exact hc
section
variable {P:Program}{e:Env}{d:Option Nat}{ty t t' kt el:TypeId}{pos:String}{aft:Array Edge}{g:Option (Nat×Bool)}{x y u:Operand}{w:World}
theorem zdA {op:BinOp}{p:Option Addr}{v:Value}:eqGuard op t x y (.pointer p) v=pure ():=by cases op<;>rfl
theorem zi8 {op:BinOp}{p:Option Nat}{v:Value}:eqGuard op t x y (.map p) v=pure ():=by cases op<;>rfl
theorem z4e {p:Option Addr}{v:Value}:binOp .eql t (.pointer p) v=(do pure (.bool (<-Op.equal t (.pointer p) v))):=rfl
theorem z3Z {p:Option Addr}{v:Value}:binOp .neq t (.pointer p) v=(do pure (.bool (!(<-Op.equal t (.pointer p) v)))):=rfl
theorem z4a {p:Option Nat}{v:Value}:binOp .eql t (.map p) v=(do pure (.bool (<-Op.equal t (.map p) v))):=rfl
theorem zjd {p:Option Addr}(ht:P.underlying t=some (.pointer el)):(Op.equal t (.pointer p) (.pointer none)).run P w= .ok p.isNone w:=
 run_equalIn_pointer_nil (P:=P) (w:=w) 9999 t p (by simp[Program.pointee,ht])
theorem zjy {p:Option Nat}(ht:P.underlying t=some (.map kt el)):(Op.equal t (.map p) (.map none)).run P w= .ok p.isNone w:=
 run_equalIn_map_nil (P:=P) (w:=w) 9999 t kt el p ht
def Qb {p:Option Addr}(ht:P.underlying t=some (.pointer el))(hx:look e x=some (.pointer p))(hy:look e y=some (.pointer none)):Y P e ⟨d,.binOp .eql t x y t',ty,pos,aft,g⟩ (.bool p.isNone) w w:=fun ρ hρ=>by
 simp only[execOp,hρ _ _ hx,hρ _ _ hy,zdA,z4e,pure_bind,Sem.run_bind,zjd ht,Result.andThen,Sem.run_pure]
def z5c {p:Option Addr}(ht:P.underlying t=some (.pointer el))(hx:look e x=some (.pointer p))(hy:look e y=some (.pointer none)):Y P e ⟨d,.binOp .neq t x y t',ty,pos,aft,g⟩ (.bool (!p.isNone)) w w:=fun ρ hρ=>by
 simp only[execOp,hρ _ _ hx,hρ _ _ hy,zdA,z3Z,pure_bind,Sem.run_bind,zjd ht,Result.andThen,Sem.run_pure]
def zhw {p:Option Nat}(ht:P.underlying t=some (.map kt el))(hx:look e x=some (.map p))(hy:look e y=some (.map none)):Y P e ⟨d,.binOp .eql t x y t',ty,pos,aft,g⟩ (.bool p.isNone) w w:=fun ρ hρ=>by
 simp only[execOp,hρ _ _ hx,hρ _ _ hy,zi8,z4a,pure_bind,Sem.run_bind,zjy ht,Result.andThen,Sem.run_pure]
def zfi {z:Value}{size bytes b m n cap i j:Nat}{k k':IntKind}{za zb:Int}[hza:Th za i][hzb:Th zb j](ht:P.underlying t=some (.slice el))(hs:TI P el z size bytes)(hx:look e x=some (.slice (some ⟨b,m,none⟩) n cap))
  (hy:look e y=some (.int k za)) (hu:look e u=some (.int k' zb)) (h:i<=j/\j<=cap) (hlt:i<cap):
  Y P e ⟨d,.slice t x (some y) (some u) none,ty,pos,aft,g⟩ (.slice (some ⟨b,m+i*size,none⟩) (j-i) (cap-i)) w w:=fun ρ hρ=>by
 obtain⟨rfl⟩:=hza
 obtain⟨rfl⟩:=hzb
 have hsz:=hs.size (w:=w)
 have h1:∀w,(Instr.sliceBound (.int k' (j:Int)) cap .sliceAcap).run P w= .ok j w:=λw=>by rw[run_sliceBound _ _ _ _ _ ω ω];simp
 have h2:∀w,(Instr.sliceBound (.int k (i:Int)) j .sliceB).run P w= .ok i w:=λw=>by rw[run_sliceBound _ _ _ _ _ ω ω];simp
 have hne:¬cap=i:=by omega
 simp[execOp,hρ _ _ hx,hρ _ _ hy,hρ _ _ hu,Instr.sliceAt,run_underlying ht,Instr.slice,Instr.sliceBounds,h1,h2,hsz,hne,Rm]
def zba {z:Value}{size bytes b m n cap j:Nat}{k:IntKind}{zb:Int}[hzb:Th zb j](ht:P.underlying t=some (.slice el))(hs:TI P el z size bytes)(hx:look e x=some (.slice (some ⟨b,m,none⟩) n cap))
  (hu:look e u=some (.int k zb)) (h:j<=cap):
  Y P e ⟨d,.slice t x none (some u) none,ty,pos,aft,g⟩ (.slice (some ⟨b,m,none⟩) j cap) w w:=fun ρ hρ=>by
 obtain⟨rfl⟩:=hzb
 have hsz:=hs.size (w:=w)
 have h1:∀w,(Instr.sliceBound (.int k (j:Int)) cap .sliceAcap).run P w= .ok j w:=λw=>by rw[run_sliceBound _ _ _ _ _ ω ω];simp
 simp[execOp,hρ _ _ hx,hρ _ _ hu,Instr.sliceAt,run_underlying ht,Instr.slice,Instr.sliceBounds,h1,hsz,Rm]
def zjX {z:Value}{bytes b i n cap:Nat}{ts:TypeId}{T:TypeId}{cs:List Value}{l:List UInt8}(ht:P.underlying t=some (.slice el))(hs:TI P el z 1 bytes)(hx:look e x=some (.slice (some ⟨b,i,none⟩) n cap))(hy:look e y=some (S l))
  (hB:OU w b cs T) (hi:i+n<=cs.length):
  Yp P e ⟨d,.call ⟨.builtin .copy,#[x,y],#[t,ts]⟩,ty,pos,aft,g⟩ w λv w'=>v=I ((min l.length n:Nat):Int)/\OU w' b (QH cs i ((l.take n).map Tz)) T/\Kp (λk=>k=b) w w':=by
 obtain⟨w',hr,hB',hk⟩:=T4 (P:=P) i ((l.take n).map Tz) 0 cs w hB (by simp;omega) (λu hu=>by rw[List.mem_map] at hu;obtain⟨_,_,rfl⟩:=hu;rfl)
 refine⟨_,w',fun ρ hρ=>?_,rfl,by simpa using hB',hk⟩
 have hsz:=hs.size (w:=w)
 have e1:((ByteArray.mk l.toArray).extract 0 (Nat.min (ByteArray.mk l.toArray).size n)).data.map (λb:UInt8=>Value.int .u8 (b.toNat:Int))=((l.take n).map Tz).toArray:=by
  rw[WM];simp only[T6,Nat.sub_zero,List.drop_zero]
  have e2:l.take (Nat.min l.length n)=l.take n:=by
   rcases Nat.le_total l.length n with h| h
   ·rw[show Nat.min l.length n=l.length from Nat.min_eq_left h,List.take_length,List.take_of_length_le h]
   ·rw[show Nat.min l.length n=n from Nat.min_eq_right h]
  rw[e2];simp
  rfl
 have hc:(Builtin.copy_ #[t,ts] ty #[.slice (some ⟨b,i,none⟩) n cap,S l]).run P w= .ok (I ((min l.length n:Nat):Int)) w':=by
  unfold Builtin.copy_;simp only[S,Builtin.lenOf,Builtin.firstCells,List.getElem?_toArray,List.getElem?_cons_zero,List.getElem?_cons_succ,pure_bind,Sem.run_bind,run_underlying ht,Result.andThen,Sem.run_pure,hsz,e1,hr];rw[T6]
  rfl
 simp[execOp,resolve,invoke,builtin,hρ _ _ hx,hρ _ _ hy,hc]
def RV {g':Option (Nat×Bool)}{z v:Value}{size bytes g n cap j:Nat}{cs:List Value}(hs:TI P t z 1 bytes)(hx:look e x=some (ptr g j))(hy:look e y=some v)(hv:oneV v=true)(hS:Sl w (.slice (some ⟨g,0,none⟩) n cap) el size n cs)(hj:j<cs.length):
  Zp P e ⟨d,.store t x y,ty,pos,aft,g'⟩ w λw'=>Sl w' (.slice (some ⟨g,0,none⟩) n cap) el size n (cs.set j v)/\Kp (λk=>k=g) w w':=by
 obtain⟨hlen,⟨hz,-⟩|⟨g1,cap1,cur,hv1,hb,hg,hn,hm,hsz,htk⟩⟩:=hS
 ·cases hz
 cases hv1
 have hjc:j<cur.size:=by
  have:cs.length<=cur.toList.length:=by rw[<-htk];simp;omega
  simp at this;omega
 have hc:w.cell? ⟨g,j,none⟩=some cur[j]:=by simp[World.cell?,hg,hjc]
 have hf:w.frozen? ⟨g,j,none⟩=false:=by simp[World.frozen?,hg]
 refine⟨w.setCell ⟨g,j,none⟩ v,fun ρ hρ=>zkz hs hx hy hv hc hf ρ hρ,⟨by simpa using hlen,.inr ⟨g,cap,cur.setIfInBounds j v,rfl,hb,Joins.block_setCell hg v,hn,hm,by simpa using hsz,?_⟩⟩,TD w g j v⟩
 rw[Array.toList_setIfInBounds,<-htk,List.take_set]
end
def VZ (P:Program)(ops:Array Oper)(Q:Exit->Act->World->Prop)(late:List Nat)(S:World->Prop):Nat->Array Bool->Act->World->Prop
 |0,listed,a,w=>Region.ready .any ops listed=[]/\Q .normal a w
 | n + 1, listed, a, w => (Region.ready .any ops listed = [] -> Q .normal a w) /\
     ∀ i ∈ Region.ready .any ops listed, (i ∈ late -> AtR P ops Q i (λa' w' => Ux P ops Q (λ_ => True) n (listed.setIfInBounds i true) a' w') a w) /\
       (i∉late->AtR P ops Q i (λa' w'=>S w'/\VZ P ops Q late S n (listed.setIfInBounds i true) a' w') a w)
def z1k {P:Program}{ops:Array Oper}{Q:Exit->Act->World->Prop}{late:List Nat}{S:World->Prop}:∀(n:Nat) (listed:Array Bool) (a:Act) (w:World),VZ P ops Q late S n listed a w->Ux P ops Q (λ_=>True) n listed a w
 |0,_,_,_,h=>h
 | n + 1, _, _, _, h => ⟨h.1, λi hi => by
     by_cases e:i∈late
     ·exact AtR.mono (λa w hh=>⟨trivial,hh⟩) ((h.2 i hi).1 e)
     ·exact AtR.mono (λa w hh=>⟨trivial,z1k n _ _ _ hh.2⟩) ((h.2 i hi).2 e)⟩
def z6L {P:Program}{ops:Array Oper}{Q:Exit->Act->World->Prop}{late:List Nat}{S:World->Prop}{n:Nat}{listed:Array Bool}{a:Act}{w:World}(hl:∀i∈Region.ready .any ops listed,i∈late)(h:Ux P ops Q (λ_=>True) n listed a w):VZ P ops Q late S n listed a w:=by
 cases n with
 |zero=>exact h
 |succ n=>exact⟨h.1,λi hi=>⟨λ_=>AtR.mono (λa w hh=>hh.2) (h.2 i hi),λe=>absurd (hl i hi) e⟩⟩
def waits (ops:List Oper)(listed:Array Bool)(late dn:List Nat)(i:Nat):Bool:= !dn.contains i&&late.all (λj=>dn.contains j)&&dn.all λj=>!listed.getD j true&&match ops[j]? with|some o=>o.after.any λx=>Region.binds .any x&&(x.on==i ||dn.contains x.on)|none=>false
section
variable {P:Program}{ops:Array Oper}{Q:Exit->Act->World->Prop}{S:World->Prop}{late:List Nat}
def z4i {i:Nat}{oi:Oper}{v:Value}{dn:List Nat}(hi:ops[i]? =some oi)(hsel:∀(j:Nat) (o:Oper) cs b,ops[j]? =some o->o.op≠ .select cs b)(hQ:∀c a w,Q (.panic c) (a.put oi.dst v) w->Q (.panic c) a w)(hil:i∉dn)
  (hlate:∀j∈late,j∈dn) (hdn:∀j∈dn,∃oj,ops[j]? =some oj/\∃e∈oj.after,Region.binds .any e=true/\(e.on=i\/e.on∈dn)):∀(n:Nat) (listed:Array Bool) (a:Act) (w:World),(∀j∈dn,listed.getD j true=false)->
  (∀j oj,ops[j]? =some oj->j≠i->listed.getD j true=false->(∀e∈oj.after,Region.binds .any e=true->e.on≠i)->oi.apart ops oj=true)->i∈Region.ready .any ops listed->YieldsIf P ops S oi v a->S w->
  VZ P ops Q late S n (listed.setIfInBounds i true) (a.put oi.dst v) w->VZ P ops Q late S (n+1) listed a w:=by
 intro n
 induction n with
 | zero =>
   intro listed a w _ _ hr hy hS H;constructor
   ·intro h0;rw[h0] at hr;cases hr
   ·intro j hj;by_cases e:j=i
    ·subst e;exact⟨λh=>absurd (hlate _ h) hil,λ_=>TL hi hy hS ⟨hS,H⟩⟩
    ·exact absurd (ready_mono hj e) (by rw[H.1];exact List.not_mem_nil)
 | succ n ih =>
   intro listed a w hdl hap hr hy hS H;constructor
   ·intro h0;rw[h0] at hr;cases hr
   ·intro j hj;by_cases e:j=i
    ·subst e;exact⟨λh=>absurd (hlate _ h) hil,λ_=>TL hi hy hS ⟨hS,H⟩⟩
    ·obtain⟨hun,oj,hoj,hall⟩:=mem_ready.1 hj;have hni:listed.getD i true=false:=(mem_ready.1 hr).1
     have hnot:∀{m:Nat},listed.getD m true=false->∀x∈oj.after,Region.binds .any x=true->x.on≠m:=fun {m} hm x hx hb heq=>by
      have h1:=hall x hx hb;rw[heq] at h1;by_cases hlt:m<listed.size
      ·simp[hlt] at hm h1;rw[hm] at h1;cases h1
      ·simp[Array.getElem?_eq_none (by omega:listed.size<=m)] at h1
     have hjd:j∉dn:=λhjd=>by
      obtain⟨oj',hoj',x,hx,hb,hon⟩:=hdn j hjd;rw[hoj] at hoj';cases hoj';rcases hon with hon|hon
      ·exact hnot hni x hx hb hon
      ·exact hnot (hdl _ hon) x hx hb O
     refine⟨λhjl=>absurd (hlate _ hjl) hjd,λhjl=>?_⟩;have h2:=z0o hoj (hap j oj hoj e hun (hnot hni)) (λcs b=>hsel i oi cs b hi) (λcs b=>hsel j oj cs b hoj) hQ hy ((H.2 j (ready_mono hj e)).2 hjl);refine AtR.mono (λa' w' h3=>⟨h3.2.1,?_⟩) h2;refine ih (listed.setIfInBounds j true) a' w' (λm hm=>?_) (λm om hm hmi hmu hno=>?_) (ready_mono hr (Ne.symm e)) h3.1 h3.2.1 ?_
     ·rw[getD_set_ne true (λe=>hjd (by rw[e];exact hm))];exact hdl m hm
     ·refine hap m om hm hmi ?_ hno;by_cases hjm:j=m
      ·subst hjm;exact hun
      ·rw[getD_set_ne true hjm] at hmu;exact hmu
     ·rw[Array.setIfInBounds_comm _ _ e];exact h3.2.2
def z3D {i:Nat}{oi:Oper}{v:Value}(hi:ops[i]? =some oi)(hsel:∀(j:Nat) (o:Oper) cs b,ops[j]? =some o->o.op≠ .select cs b)(hQ:∀c a w,Q (.panic c) (a.put oi.dst v) w->Q (.panic c) a w)(hil:i∉late):∀(n:Nat) (listed:Array Bool) (a:Act) (w:World),
  (∀j oj,ops[j]? =some oj->j≠i->listed.getD j true=false->(∀e∈oj.after,Region.binds .any e=true->e.on≠i)->oi.apart ops oj=true)->i∈Region.ready .any ops listed->YieldsIf P ops (λ_=>True) oi v a->S w->
  VZ P ops Q late S n (listed.setIfInBounds i true) (a.put oi.dst v) w->VZ P ops Q late S (n+1) listed a w:=by
 intro n
 induction n with
 | zero =>
   intro listed a w _ hr hy hS H;constructor
   ·intro h0;rw[h0] at hr;cases hr
   ·intro j hj;by_cases e:j=i
    ·subst e;exact⟨λh=>absurd h hil,λ_=>TL hi hy trivial ⟨hS,H⟩⟩
    ·exact absurd (ready_mono hj e) (by rw[H.1];exact List.not_mem_nil)
 | succ n ih =>
   intro listed a w hap hr hy hS H;constructor
   ·intro h0;rw[h0] at hr;cases hr
   ·intro j hj;by_cases e:j=i
    ·subst e;exact⟨λh=>absurd h hil,λ_=>TL hi hy trivial ⟨hS,H⟩⟩
    ·obtain⟨hun,oj,hoj,hall⟩:=mem_ready.1 hj;have hni:listed.getD i true=false:=(mem_ready.1 hr).1
     have hwait:∀x∈oj.after,Region.binds .any x=true->x.on≠i:=λx hx hb heq=>by
      have h1:=hall x hx hb;rw[heq] at h1;by_cases hlt:i<listed.size
      ·simp[hlt] at hni h1;rw[hni] at h1;cases h1
      ·simp[Array.getElem?_eq_none (by omega:listed.size<=i)] at h1
     have hap':∀m om,ops[m]? =some om->m≠i->(listed.setIfInBounds j true).getD m true=false->(∀e∈om.after,Region.binds .any e=true->e.on≠i)->oi.apart ops om=true:=λm om hm hmi hmu hno=>by
      refine hap m om hm hmi ?_ hno;by_cases hjm:j=m
      ·subst hjm;exact hun
      ·rw[getD_set_ne true hjm] at hmu;exact hmu
     refine⟨λhjl=>?_,λhjl=>?_⟩
     ·have h2:=z0o hoj (hap j oj hoj e hun hwait) (λcs b=>hsel i oi cs b hi) (λcs b=>hsel j oj cs b hoj) hQ hy ((H.2 j (ready_mono hj e)).1 hjl);refine AtR.mono (λa' w' h3=>?_) h2;exact ZH hi hsel hQ n (listed.setIfInBounds j true) a' w' hap' (ready_mono hr (Ne.symm e)) h3.1 trivial (by rw[Array.setIfInBounds_comm _ _ e];exact h3.2)
     ·have h2:=z0o hoj (hap j oj hoj e hun hwait) (λcs b=>hsel i oi cs b hi) (λcs b=>hsel j oj cs b hoj) hQ hy ((H.2 j (ready_mono hj e)).2 hjl);refine AtR.mono (λa' w' h3=>⟨h3.2.1,?_⟩) h2;refine ih (listed.setIfInBounds j true) a' w' hap' (ready_mono hr (Ne.symm e)) h3.1 h3.2.1 ?_;rw[Array.setIfInBounds_comm _ _ e];exact h3.2.2
def z2D {rs:List Nat}{fuel:Nat}{listed:Array Bool}{a:Act}{w:World}(hr:Region.ready .any ops listed=rs)(hne:rs≠[])(hl:∀i∈rs,i∉late)(h:∀i∈rs,AtR P ops Q i (λa' w'=>S w'/\VZ P ops Q late S fuel (listed.setIfInBounds i true) a' w') a w):VZ P ops Q late S (fuel+1) listed a w:=
 ⟨λh0=>absurd (hr▸h0) hne,by rw[hr];exact λi hi=>⟨λe=>absurd e (hl i hi),λ_=>h i hi⟩⟩
end
def RHL (D:RC)(late:List Nat)(S:World->Prop)(fuel:Nat)(listed:Array Bool)(e:Env)(w:World):Prop:=
 ∀a,WO D.C.n D.C.ms e a->VZ D.C.P D.ops.toArray (QK D.C D.k) late S fuel listed a w
def Pk {C:Cx}{id:Nat}{ops:List Oper}{k:List Item}{e:Env}{w:World}(late:List Nat)(S:World->Prop)(hm:C.P.follows .mixedOrders=true)
  (ho:RT C.n ops=true) (h:RHL ⟨C,ops,k,ho⟩ late S ops.length (Array.replicate ops.length false) e w.drew) (hc:calm ops=true:=by rfl):Pu C (.code (.region id ops.toArray true)::k) e w:=
 z4d (λ_=>True) hm ho (λa ha=>z1k _ _ _ _ (h a ha)) hc
def zc0 (rs late:List Nat):Bool:=rs.all λi=>!late.contains i
def ze0 (rs late:List Nat):Bool:=rs.all λi=>late.contains i
section
variable {D:RC}{late:List Nat}{S:World->Prop}{e:Env}{w w':World}{d i fuel:Nat}{op:Op}{ty:TypeId}{pos:String}{aft:Array Edge}{g:Option (Nat×Bool)}{listed:Array Bool}
theorem zii (rs:List Nat)(hr:RQ D.ops listed rs=true)(hl:ze0 rs late=true)(h:RH D (λ_=>True) fuel listed e w):RHL D late S fuel listed e w:=λa ha=>
 z6L (λi hi=>by
  have hr':Region.ready .any D.ops.toArray listed=rs:=by simpa[RQ] using hr
  rw[hr'] at hi
  simpa using List.all_eq_true.1 hl i hi) (h a ha)
def z5K {ops:List Oper}{dn:List Nat}(h:waits ops listed late dn i=true):i∉dn/\(∀j∈late,j∈dn)/\(∀j∈dn,listed.getD j true=false)/\∀j∈dn,∃oj,ops.toArray[j]? =some oj/\∃e∈oj.after,Region.binds .any e=true/\(e.on=i\/e.on∈dn):=by
 unfold waits at h
 rw[Bool.and_eq_true,Bool.and_eq_true] at h
 obtain⟨⟨h1,h2⟩,h3⟩:=h
 have h3:=λj hj=>List.all_eq_true.1 h3 j hj
 refine⟨by simpa using h1,λj hj=>by simpa using List.all_eq_true.1 h2 j hj,λj hj=>?_,λj hj=>?_⟩
 ·have:=h3 j hj;rw[Bool.and_eq_true] at this;cases e:listed.getD j true
  ·rfl
  ·have h4:=this.1;rw[e] at h4;cases h4
 ·have:=h3 j hj;rw[Bool.and_eq_true] at this;have:=this.2
  cases ho:ops[j]? with
  |none=>rw[ho] at this;cases this
  | some o =>
    rw[ho] at this;obtain⟨x,hx,hb⟩:=Array.any_eq_true'.1 this;rw[Bool.and_eq_true,Bool.or_eq_true] at hb;exact⟨o,by simpa using ho,x,hx,hb.1,hb.2.imp (λh=>by simpa using h) (λh=>by simpa using h)⟩
def z68 (dn:List Nat){v:Value}(hi:D.ops[i]? =some ⟨some d,op,ty,pos,aft,g⟩)(hf:(SB D.ops listed i&&waits D.ops listed late dn i)=true)(ho:Sg D e g true=true)(hd:Nat.blt d D.C.n=true)
  (hy:∀w,S w->Y D.C.P e ⟨some d,op,ty,pos,aft,g⟩ v w w) (hS:S w) (h:RHL D late S fuel (listed.setIfInBounds i true) ((d,v)::e) w):RHL D late S (fuel+1) listed e w:=λa ha=>by
 rw[Bool.and_eq_true] at hf
 obtain⟨h1,h2,h3⟩:=Ud hf.1
 obtain⟨l1,l2,l3,l4⟩:=z5K hf.2
 exact z4i (v:=v) (by simpa using hi) (Region.noSelect_spec h1) (λ_ _ _ h=>h) l1 l2 l4 _ _ _ _ l3 (Region.free_spec (by simpa using hi) h2) (by simpa using h3) (.inl ⟨RX ha ho,λw hw=>hy w hw a.eval (λx v hx=>ha.look hx)⟩) hS (h _ (ha.put hd v))
def Ql {v:Value}(hi:D.ops[i]? =some ⟨some d,op,ty,pos,aft,g⟩)(hf:(SB D.ops listed i&& !late.contains i)=true)(ho:Sg D e g true=true)(hd:Nat.blt d D.C.n=true)
  (hy:∀w,Y D.C.P e ⟨some d,op,ty,pos,aft,g⟩ v w w) (hS:S w) (h:RHL D late S fuel (listed.setIfInBounds i true) ((d,v)::e) w):RHL D late S (fuel+1) listed e w:=λa ha=>by
 rw[Bool.and_eq_true] at hf
 obtain⟨h1,h2,h3⟩:=Ud hf.1
 exact z3D (v:=v) (by simpa using hi) (Region.noSelect_spec h1) (λ_ _ _ h=>h) (by simpa using hf.2) _ _ _ _ (Region.free_spec (by simpa using hi) h2) (by simpa using h3) (.inl ⟨RX ha ho,λw _=>hy w a.eval (λx v hx=>ha.look hx)⟩) hS (h _ (ha.put hd v))
def NxL (D:RC)(late:List Nat)(S:World->Prop)(fuel:Nat)(listed:Array Bool)(e:Env)(w:World)(i:Nat):Prop:=
 ∀a,WO D.C.n D.C.ms e a->AtR D.C.P D.ops.toArray (QK D.C D.k) i (λa' w'=>S w'/\VZ D.C.P D.ops.toArray (QK D.C D.k) late S fuel (listed.setIfInBounds i true) a' w') a w
def Rf (hr:(RQ D.ops listed [i]&&zc0 [i] late)=true)(h:NxL D late S fuel listed e w i):RHL D late S (fuel+1) listed e w:=λa ha=>by
 rw[Bool.and_eq_true] at hr
 exact z2D (rs:=[i]) (by simpa[RQ] using hr.1) ξ (λj hj=>by simpa using List.all_eq_true.1 hr.2 j hj) λj hj=>by simp at hj;subst hj;exact h a ha
def Xn {j:Nat}(hr:(RQ D.ops listed [i,j]&&zc0 [i,j] late)=true)(h:NxL D late S fuel listed e w i)(h':NxL D late S fuel listed e w j):RHL D late S (fuel+1) listed e w:=λa ha=>by
 rw[Bool.and_eq_true] at hr
 exact z2D (rs:=[i,j]) (by simpa[RQ] using hr.1) ξ (λj hj=>by simpa using List.all_eq_true.1 hr.2 j hj) λm hm=>by
  simp at hm;rcases hm with rfl|rfl
  ·exact h a ha
  ·exact h' a ha
def NxL.z0O {o:Oper}(hi:D.ops[i]? =some o)(ho:Sg D e o.guard true=true)
  (h:∀a,WO D.C.n D.C.ms e a->o.wp D.C.P a w (λa' w'=>S w'/\VZ D.C.P D.ops.toArray (QK D.C D.k) late S fuel (listed.setIfInBounds i true) a' w') (QK D.C D.k)):NxL D late S fuel listed e w i:=λa ha=>by
 have hw:=RX ha ho
 refine .inl ?_
 unfold wpOp
 simp only[List.getElem?_toArray,hi]
 rw[if_pos hw]
 exact .inl (h a ha)
def zdu {v:Value}(hi:D.ops[i]? =some ⟨some d,op,ty,pos,aft,g⟩)(ho:Sg D e g true=true)(hd:Nat.blt d D.C.n=true)
  (hy:Y D.C.P e ⟨some d,op,ty,pos,aft,g⟩ v w w') (hS:S w') (h:RHL D late S fuel (listed.setIfInBounds i true) ((d,v)::e) w'):NxL D late S fuel listed e w i:=
 NxL.z0O hi ho λa ha=>by
  have:=hy a.eval (λx v hx=>ha.look hx);unfold Oper.wp;rw[this];exact⟨hS,h _ (ha.put hd v)⟩
def S0 {f:FuncId}{args:List Value}{T:Value->World->Prop}(hi:D.ops[i]? =some ⟨some d,op,ty,pos,aft,g⟩)(ho:Sg D e g true=true)(hd:Nat.blt d D.C.n=true)
  (hy:Yc D.C.P e ⟨some d,op,ty,pos,aft,g⟩ f args w) (hc:Ps D.C.P f args w T) (h:∀v w',T v w'->S w'/\RHL D late S fuel (listed.setIfInBounds i true) ((d,v)::e) w'):NxL D late S fuel listed e w i:=
 NxL.z0O hi ho λa ha=>by
  have:=hy a.eval (λx v hx=>ha.look hx);unfold Oper.wp;rw[this];exact Calls.mono hc λx w' ⟨v,hx,hv⟩=>by subst hx;exact⟨(h v w' hv).1,(h v w' hv).2 _ (ha.put hd v)⟩
def Qv {Post:Value->World->Prop}(hi:D.ops[i]? =some ⟨some d,op,ty,pos,aft,g⟩)(ho:Sg D e g true=true)(hd:Nat.blt d D.C.n=true)
  (hy:Yp D.C.P e ⟨some d,op,ty,pos,aft,g⟩ w Post) (h:∀v w',Post v w'->S w'/\RHL D late S fuel (listed.setIfInBounds i true) ((d,v)::e) w'):NxL D late S fuel listed e w i:=by
 obtain⟨v,w',hy,hp⟩:=hy
 exact zdu hi ho hd hy (h v w' hp).1 (h v w' hp).2
end
end Go.Proofs.YtffbidffdbpcoaaGreatDoor
