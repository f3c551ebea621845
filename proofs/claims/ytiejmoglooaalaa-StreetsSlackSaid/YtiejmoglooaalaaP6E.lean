/- A part of the proof. -/
import Derived.Test.YtiejmoglooaalaaP6D
set_option linter.unusedVariables false
set_option linter.unusedSimpArgs false
set_option linter.unnecessarySimpa false
section
namespace Go.HL
open Go.ChangeShapes Go.WideShapes Go.ChangeAt Go.RowKit Go.Deep
abbrev encTr (s:Int × Int × Int):HV:=.agg [.int .i64 s.1,.int .i64 s.2.1,.int .i64 s.2.2]
theorem arg_trips_ok {H:Type} {enc:TypeId × Value → H} {P:Program} {W:World} {base:Nat} {t e q:TypeId} {v:Value} {d:DataW H} {ps:List MemPlace} {f0 f1 f2:Field} (ht:P.underlying t=some (.slice e)) (he:P.underlying e=some (.struct #[f0,f1,f2])) (t0:f0.type=q) (t1:f1.type=q) (t2:f2.type=q) (o0:f0.offset=0) (o1:f1.offset=1) (o2:f2.offset=2) (hq:P.underlying q=some (.int .i64)) (ce:P.cellsOf e=3) (cq:P.cellsOf q=1)
    (hval:Value.okWide P W .any base t v) (hd:DataW.Trod enc P W 0 (fun _=>true) true t v d ps):∃ l:List (Int × Int × Int),V W (okOf Ctx.nil W.heap.size) Ctx.nil (.imm .arg 3 (l.map encTr)) v:=by
  obtain ⟨a,len,cap,rfl⟩:=okWide_slice ht hval
  obtain ⟨fuel,hf⟩:=hd
  rcases open_slice ht hf with ⟨h0,_⟩ | ⟨a',len',cap',m,n,D,Pl,h0,hb,hl,hm,hmm,hx,hel⟩
  · simp [Value.cells] at h0
    obtain ⟨rfl,rfl,rfl⟩:=h0
    exact ⟨[],.imm .arg 3 [] none 0 (fun _=>.bool false) (by simp) (by simp) (by simp) (by simp) (by simp) (by simp)⟩
  · simp [Value.cells] at h0
    obtain ⟨rfl,rfl,rfl⟩:=h0
    have hlm:len ≤ m:=by rw [hmm]; split <;> omega
    have each:∀ i,i < len → ∃ p:Int × Int × Int,W.cell? (a'.add (i * 3))=some (.int .i64 p.1)∧W.cell? (a'.add (i * 3+1))=some (.int .i64 p.2.1)∧W.cell? (a'.add (i * 3+2))=some (.int .i64 p.2.2):=by
      intro i hi
      obtain ⟨cs',h1,h2⟩:=hel i (by omega)
      rw [ce] at h1
      obtain ⟨_,hlen,hcell⟩:=World.cells?_some h1
      obtain ⟨y0,y1,y2,k,_,_,g0,g1,g2⟩:=trod_struct3 he h2
      rw [t0,o0,cq] at g0
      rw [t1,o1,cq] at g1
      rw [t2,o2,cq] at g2
      match cs',hlen with
      | [v0,v1,v2],_ =>
        simp at g0 g1 g2
        obtain ⟨z0,e0,_,_⟩:=DataW.trod_int hq g0
        obtain ⟨z1,e1,_,_⟩:=DataW.trod_int hq g1
        obtain ⟨z2,e2,_,_⟩:=DataW.trod_int hq g2
        simp at e0 e1 e2
        subst e0; subst e1; subst e2
        have c0:=hcell 0 (by omega)
        have c1:=hcell 1 (by omega)
        have c2:=hcell 2 (by omega)
        rw [add_add] at c0 c1 c2
        exact ⟨(z0,z1,z2),by simpa using c0,by simpa using c1,by simpa using c2⟩
    obtain ⟨f,hf⟩:=choose_lt each
    refine ⟨(List.range len).map f,?_⟩
    have hlen:(((List.range len).map f).map encTr).length=len:=by simp
    have key:=V.imm (w:=W) (ok:=okOf Ctx.nil W.heap.size) (c:=Ctx.nil) .arg 3 (((List.range len).map f).map encTr) (some a') cap (fun j=>if j % 3=0 then .int .i64 (f (j / 3)).1 else if j % 3=1 then .int .i64 (f (j / 3)).2.1 else .int .i64 (f (j / 3)).2.2)
      (by rw [hlen]; exact hl) (by simp) ?_ ?_ ?_ ?_
    · rw [hlen] at key; exact key
    · intro hne
      have h0:0 < len:=by
        rcases Nat.eq_zero_or_pos len with h | h
        · subst h; simp at hne
        · exact h
      obtain ⟨b,off,spot⟩:=a'
      have hspot:spot=none:=by simpa [Addr.add] using World.cell?_spot (hf 0 h0).1
      subst hspot
      refine ⟨b,off,rfl,by simpa [Addr.add] using cell_lt (hf 0 h0).1,okNil W b,fun j hj=>?_⟩
      rw [hlen] at hj
      have hj2:j / 3 < len:=by omega
      obtain ⟨c0,c1,c2⟩:=hf (j / 3) hj2
      by_cases hp:j % 3=0
      · rw [if_pos hp]
        have:j / 3 * 3=j:=by omega
        rw [this,add_plain] at c0
        exact c0
      by_cases hp1:j % 3=1
      · rw [if_neg hp,if_pos hp1]
        have:j / 3 * 3+1=j:=by omega
        rw [this,add_plain] at c1
        exact c1
      · rw [if_neg hp,if_neg hp1]
        have:j / 3 * 3+2=j:=by omega
        rw [this,add_plain] at c2
        exact c2
    · intro v hv
      obtain ⟨p,_,rfl⟩:=List.mem_map.1 hv
      rfl
    · intro v hv
      obtain ⟨p,_,rfl⟩:=List.mem_map.1 hv
      rfl
    · intro i v j x hi hj
      have hil:i < len:=by have:=lt_of_get hi; rw [hlen] at this; exact this
      have:v=encTr (f i):=by
        rw [List.getElem?_map,List.getElem?_map,List.getElem?_range hil] at hi
        simpa using hi.symm
      subst this
      have hjx:j < 3:=lt_of_get hj
      match j,hjx,hj with
      | 0,_,hj =>
        simp [encTr,cellsOf] at hj
        subst hj
        have e1:(i * 3+0) % 3=0:=by omega
        have e2:(i * 3+0) / 3=i:=by omega
        rw [if_pos e1,e2]
        exact V.int _ _
      | 1,_,hj =>
        simp [encTr,cellsOf] at hj
        subst hj
        have e0:¬ (i * 3+1) % 3=0:=by omega
        have e1:(i * 3+1) % 3=1:=by omega
        have e2:(i * 3+1) / 3=i:=by omega
        rw [if_neg e0,if_pos e1,e2]
        exact V.int _ _
      | 2,_,hj =>
        simp [encTr,cellsOf] at hj
        subst hj
        have e0:¬ (i * 3+2) % 3=0:=by omega
        have e1:¬ (i * 3+2) % 3=1:=by omega
        have e2:(i * 3+2) / 3=i:=by omega
        rw [if_neg e0,if_neg e1,e2]
        exact V.int _ _
end Go.HL
end
