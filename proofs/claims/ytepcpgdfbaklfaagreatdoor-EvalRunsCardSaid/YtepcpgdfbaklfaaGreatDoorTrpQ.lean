/- Laws on a range yG a function whose body may panic: a piece of code is walked in one frame of a known function; a round that panics hands its panic on through the iterator; so does the statement. No condition. -/
import Derived.RangeFuncLeaves
import Derived.RangeFuncFrom
set_option linter.unusedVariables false
set_option linter.unusedSimpArgs false
namespace Go.Proofs.YtepcpgdfbaklfaaGreatDoor
open Go Go.RowKit
variable {P:Program} {b:Frame} {n:Nat} {Q:Exit->Act->World->Prop} {a:Act} {w:World}
theorem fB {m o:Machine}(h:step P m=.next o):StepsIn (Machine.fenced P Fence.wide) P m o:=.one (fenced_wide _ _) h
def jH (b:Frame)(P:Program)(c:Code)(Q:Exit->Act->World->Prop)(a:Act)(w:World):Prop:=
 ∀(k:List Item) (cs:List Frame),∃e m w',Q e m w'/\ArrivesIn (Machine.fenced P Fence.wide) P (lone (b.atR a (.code c::k)) cs w) b k cs e m w'
theorem jH.of {c:Code}(m:b.roundOf=none)(h:c.wpIn Fence.wide n P Q a w):jH b P c Q a w:=λk cs=>h b k cs m trivial (room_wide _)
theorem jH.seq {x y:Code}(n:Nat)(M:b.roundOf=none)(h:∀K:Act->World->Prop,(∀a w,jH b P y Q a w->K a w)->x.wpIn Fence.wide n P (Exit.then K Q) a w):jH b P (.seq x y) Q a w:=by
 intro k cs
 obtain⟨e,E,A,m,o⟩:=h _ (λ_ _ h=>h) b (.code y::k) cs M trivial (room_wide _)
 have s:=fB (stepR_seq (P:=P) (b:=b) (a:=a) (k:=k) (cs:=cs) (w:=w) (x:=x) (y:=y))
 have ps:∀e,e≠.normal->ArrivesIn (Machine.fenced P Fence.wide) P (lone (b.atR a (.code x:: .code y::k)) cs w) b (.code y::k) cs e E A->ArrivesIn (Machine.fenced P Fence.wide) P (lone (b.atR a (.code (.seq x y)::k)) cs w) b k cs e E A:=
  λe J I=>.of_steps s (.pass (x:=.code y) rfl (λ_ _=>.inl J) I)
 cases e with
 | normal=>
   obtain⟨N,O,w₂,r,G⟩:=m k cs
   exact⟨N,O,w₂,r,.of_steps (StepsIn.trans s o) G⟩
 | exit id=>exact⟨_,_,_,m,ps _ (by simp) o⟩
 | goto l=>exact⟨_,_,_,m,ps _ (by simp) o⟩
 | ret=>exact⟨_,_,_,m,ps _ (by simp) o⟩
 | panic R=>exact⟨_,_,_,m,ps _ (by simp) o⟩
 | outgrown=>exact⟨_,_,_,m,ps _ (by simp) o⟩
def yH (Q:Exit->Act->World->Prop):Exit->Act->World->Prop
 | .normal,a,w=>Q .normal a w
 | .panic m,a,w=>Q (.panic m) a w
 | _,_,_=>False
theorem jH.block {id:Nat}{c:Code}(h:jH b P c (yH Q) a w):jH b P (.block id c) Q a w:=by
 intro k cs
 obtain⟨e,A,o,m,r⟩:=h (.inBlock id::k) cs
 have s:=fB (stepR_block (P:=P) (b:=b) (a:=a) (k:=k) (cs:=cs) (w:=w) (id:=id) (c:=c))
 cases e with
 | normal=>exact⟨.normal,A,o,m,StepsIn.trans s (StepsIn.trans r (fB stepR_inBlock))⟩
 | panic E=>exact⟨.panic E,A,o,m,.of_steps s r⟩
 | exit id=>exact m.elim
 | goto l=>exact m.elim
 | ret=>exact m.elim
 | outgrown=>exact m.elim
abbrev qT (b:Frame)(a:Act)(w:World)(ps:Array Tmp)(assign body:Code)(st:LoopState):Loop:={state:=st,pending:=none,fn:=b.fn,tmps:=a.tmps,params:=ps,assign,body,defers:=w.heap.size}
abbrev qi (a:Act)(w:World):Act:={a with defers:={target:=.collected w.heap.size,args:=#[]}::a.defers}
theorem jH.rangeFunc {g:Operand}{ps:Array Tmp}{assign body:Code}{gf:Nat}{lb:Array Value}(O:b.roundOf=none)(K:a.eval g=.func (.func gf) #[] lb)(R:∀args w,(callFunc gf args).run P w=.ok (.enter gf args) w)
 (h:CallsIn Fence.wide n P gf (#[.func (.yield (w.heap.size+1)) #[] #[]]++lb) ((w.alloc (.deferred (some []))).alloc (.loop (qT b a w ps assign body .ready))) λe r=>match e with
   | .returned _=>∃o,(Instr.endLoop (w.heap.size+1)).run P r=.ok none o/\Q .normal (qi a w) o
   | .panicked U=>Q (.panic U) (qi a w) r
   | .outgrown=>False):jH b P (.rangeFunc g ps assign body) Q a w:=by
 intro k cs
 have N:(Instr.enterLoop b.fn a.tmps ps assign body b.roundOf).run P w=.ok (w.heap.size+1,[{target:=.collected w.heap.size,args:=#[]}]) ((w.alloc (.deferred (some []))).alloc (.loop (qT b a w ps assign body .ready))):=by
  rw[O];exact run_enterLoop_outer _ _ _ _ _
 have E:=fB (stepR_rangeFunc (P:=P) (b:=b) (a:=a) (k:=k) (cs:=cs) (w:=w) (g:=g) (ps:=ps) (assign:=assign) (body:=body)
  (d:={target:=.fn (.func gf) lb,args:=#[.func (.yield (w.heap.size+1)) #[] #[]]}) (f:=gf) (args:=#[.func (.yield (w.heap.size+1)) #[] #[]]++lb) (w₁':=(w.alloc (.deferred (some []))).alloc (.loop (qT b a w ps assign body .ready))) (w₂:=(w.alloc (.deferred (some []))).alloc (.loop (qT b a w ps assign body .ready))) N (by
    simp only[resolve,K]
    simp[go_sem]) (by simp[invoke,go_sem,R]))
 obtain⟨e,r,fr,A,G,M,I⟩:=h.2 (b.atR (qi a w) (.inRangeFunc (w.heap.size+1)::k)::cs) (room_wide _)
 cases e with
 | outgrown=>exact A.elim
 | returned v=>
   obtain⟨o,hend,J⟩:=A
   refine⟨.normal,_,o,J,StepsIn.trans E (StepsIn.trans G (StepsIn.trans (fB (step_leave_returned I)) ?_))⟩
   rw[finish_atR_inRangeFunc]
   exact fB (stepR_endRangeFunc hend)
 | panicked m=>
   refine⟨.panic m,_,r,A,.inRangeFunc (w.heap.size+1)::k,StepsIn.trans E (StepsIn.trans G ?_)⟩
   have:=step_leave_panicked (c:=b.atR (qi a w) (.inRangeFunc (w.heap.size+1)::k)) (cs:=cs) I
   rw[Frame.raise_atR]at this
   exact fB this
theorem vv {f:FuncId}{fn:Func}{c:Code}{args:Array Value}{R:Ending->World->Prop}(n:Nat)(Z:P.funcs[f]? =some fn)(W:fn.body=some c)
 (h:∀b:Frame,b.fn=f->b.roundOf=none->jH b P c (bodyPostM Fence.wide n P fn R) {tmps:=args++Array.replicate (fn.ntmps - args.size) undef,defers:=[]} w):Calls P f args w R:=by
 refine(callsIn_wide (n:=n)).1 ⟨trivial,λcs hr=> ?_⟩
 obtain⟨b,G⟩:∃b:Frame,b={(default:Frame)with fn:=f,kind:=.normal,roundOf:=none}:=⟨_,rfl⟩
 have A:Frame.enter P f args .normal=b.atR {tmps:=args++Array.replicate (fn.ntmps - args.size) undef,defers:=[]} [.code c]:=by
  rw[G];simp[Frame.enter,Frame.atR,Z,W]
 have E:b.fn=f:=by rw[G]
 have I:b.roundOf=none:=by rw[G]
 have N:b.kind=.normal:=by rw[G]
 obtain⟨e,O,w',K,o⟩:=h b E I [] cs
 rw[<-A]at o
 have go:∀(u:FrameMode) (m:List Item),LeavesInM Fence.wide n P fn O.tmps R O.defers u w'->StepsIn (Machine.fenced P Fence.wide) P (lone (Frame.enter P f args .normal) cs w) (lone {b.atR O m with mode:=u} cs w')->
  ∃e r fr,R e r/\ComesIn (Machine.fenced P Fence.wide) P (lone (Frame.enter P f args .normal) cs w) (lone fr cs r) e/\fr.fn=f/\fr.leaving P r e:=by
  intro u m hL M
  obtain⟨e',r,Y,hR,U,V,hl⟩:=leaves_stepsInM O.defers u w' {b.atR O m with mode:=u} cs rfl rfl rfl (by show P.funcs[b.fn]? =_;rw[E];exact Z) N trivial hr hL
  exact⟨e',r,Y,hR,ComesIn.of_steps M U,V.trans E,hl⟩
 cases e with
 | normal=>exact go .returning [] K (StepsIn.trans o (fB (stepR_end I)))
 | ret=>obtain⟨m,M⟩:=o.1 I;exact go .returning m K M
 | panic J=>obtain⟨m,M⟩:=o;exact go (.panicking J) m K M
 | exit id=>exact K.elim
 | goto l=>exact K.elim
 | outgrown=>exact⟨.outgrown,w',b,K,o.resolve_left (by rw[N];simp),E,trivial⟩
def zL (P:Program)(l:Nat)(R:Ending->World->Prop):Exit->Act->World->Prop
 | .normal,_,w=>∃v w',(Instr.endRound l none).run P w=.ok v w'/\R (.returned v) w'
 | .panic m,a,w=>a.defers=[]/\R (.panicked m) w
 | _,_,_=>False
theorem uF {l:Nat}{f:FuncId}{fn:Func}{tmps:Array Value}{assign body:Code}{R:Ending->World->Prop}(hf:P.funcs[f]? =some fn)
 (h:assign.wpIn (Fence.wide.inRound l) n P (Exit.then (λU V=>∃w₂,(Instr.beginRound l).run P V=.ok () w₂/\body.wpIn (Fence.wide.inRound l) n P (zL P l R) U w₂) (λ_ _ _=>False)) {tmps:=tmps,defers:=[]} w):
 RoundIn Fence.wide n P l f tmps assign body w R:=by
 refine⟨trivial,λc cs hr=> ?_⟩
 have I:(Fence.wide.inRound l).room ((c::cs).length+1+n):=hr
 obtain⟨b,r⟩:∃b:Frame,b={(default:Frame)with fn:=f,kind:=.normal,roundOf:=some l}:=⟨_,rfl⟩
 have N:Frame.round l f tmps assign body .normal=b.atR {tmps:=tmps,defers:=[]} [.code assign,.beginRound,.code body]:=by
  rw[r];simp[Frame.round,Frame.atR]
 have M:b.fn=f:=by rw[r]
 have o:b.roundOf=some l:=by rw[r]
 have J:b.kind=.normal:=by rw[r]
 obtain⟨e,U,V,G,A⟩:=h b [.beginRound,.code body] (c::cs) o trivial I
 rw[<-N]at A
 cases e with
 | normal=>
   obtain⟨w₂,K,E⟩:=G
   obtain⟨e₂,a₂,w₃,m,Y⟩:=E b [] (c::cs) o trivial I
   have s:StepsIn (Machine.fenced P Fence.wide) P (lone (Frame.round l f tmps assign body .normal) (c::cs) w) (lone (b.atR U [.code body]) (c::cs) w₂):=StepsIn.trans A (fB (stepR_beginRound o K))
   cases e₂ with
   | normal=>
     obtain⟨v,w₄,hend,O⟩:=m
     exact⟨.returned v,w₄,O,StepsIn.trans s (StepsIn.trans Y (fB (stepR_round_end o J hend)))⟩
   | panic Z=>
     obtain⟨hd,O⟩:=m
     obtain⟨W,hs⟩:=Y
     refine⟨.panicked Z,w₃,O,StepsIn.trans s (StepsIn.trans hs (fB (step_leave_panicked ⟨rfl,hd,fn,?_⟩)))⟩
     show P.funcs[b.fn]? =_
     rw[M];exact hf
   | exit id=>exact m.elim
   | goto l=>exact m.elim
   | ret=>exact m.elim
   | outgrown=>exact m.elim
 | exit id=>exact G.elim
 | goto l=>exact G.elim
 | ret=>exact G.elim
 | panic Z=>exact G.elim
 | outgrown=>exact G.elim
end Go.Proofs.YtepcpgdfbaklfaaGreatDoor
