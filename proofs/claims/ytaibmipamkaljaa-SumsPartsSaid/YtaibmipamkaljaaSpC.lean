/- A part of the proof. -/
import Derived.Test.YtaibmipamkaljaaSpB
set_option linter.unusedVariables false
set_option linter.unusedSimpArgs false
set_option linter.unnecessarySimpa false
section
namespace Go.HL
open Go.ChangeShapes Go.WideShapes Go.ChangeAt Go.RowKit Go.Deep
theorem arg_ints_ok {H:Type} {enc:TypeId × Value → H} {P:Program} {W:World} {base:Nat} {t q:TypeId} {v:Value} {d:DataW H} {ps:List MemPlace} (ht:P.underlying t=some (.slice q)) (hq:P.underlying q=some (.int .i64)) (cq:P.cellsOf q=1)
    (hval:Value.okWide P W .any base t v) (hd:DataW.Trod enc P W 0 (fun _=>true) true t v d ps):∃ l:List Int,V W (okOf Ctx.nil W.heap.size) Ctx.nil (.imm .arg 1 (l.map encI)) v:=by
  obtain ⟨a,len,cap,rfl⟩:=okWide_slice ht hval
  obtain ⟨fuel,hf⟩:=hd
  rcases open_slice ht hf with ⟨h0,_⟩ | ⟨a',len',cap',m,n,D,Pl,h0,hb,hl,hm,hmm,hx,hel⟩
  · simp [Value.cells] at h0
    obtain ⟨rfl,rfl,rfl⟩:=h0
    exact ⟨[],.imm .arg 1 [] none 0 (fun _=>.bool false) (by simp) (by simp) (by simp) (by simp) (by simp) (by simp)⟩
  · simp [Value.cells] at h0
    obtain ⟨rfl,rfl,rfl⟩:=h0
    have hlm:len ≤ m:=by rw [hmm]; split <;> omega
    have each:∀ i,i < len → ∃ z:Int,W.cell? (a'.add i)=some (.int .i64 z):=by
      intro i hi
      obtain ⟨cs',h1,h2⟩:=hel i (by omega)
      rw [cq] at h1
      obtain ⟨_,hlen,hcell⟩:=World.cells?_some h1
      match cs',hlen with
      | [v0],_ =>
        obtain ⟨z0,e0,_,_⟩:=DataW.trod_int hq h2
        simp at e0
        subst e0
        have c0:=hcell 0 (by omega)
        rw [add_add] at c0
        exact ⟨z0,by simpa using c0⟩
    obtain ⟨f,hf⟩:=choose_lt each
    refine ⟨(List.range len).map f,?_⟩
    have hlen:(((List.range len).map f).map encI).length=len:=by simp
    have key:=V.imm (w:=W) (ok:=okOf Ctx.nil W.heap.size) (c:=Ctx.nil) .arg 1 (((List.range len).map f).map encI) (some a') cap (fun j=>.int .i64 (f j))
      (by rw [hlen]; exact hl) (by simp) ?_ ?_ ?_ ?_
    · rw [hlen] at key; exact key
    · intro hne
      have h0:0 < len:=by
        rcases Nat.eq_zero_or_pos len with h | h
        · subst h; simp at hne
        · exact h
      obtain ⟨b,off,spot⟩:=a'
      have hspot:spot=none:=by simpa [Addr.add] using World.cell?_spot (hf 0 h0)
      subst hspot
      refine ⟨b,off,rfl,by simpa [Addr.add] using cell_lt (hf 0 h0),okNil W b,fun j hj=>?_⟩
      rw [hlen] at hj
      have c0:=hf j (by omega)
      rw [add_plain] at c0
      exact c0
    · intro v hv
      obtain ⟨p,_,rfl⟩:=List.mem_map.1 hv
      rfl
    · intro v hv
      obtain ⟨p,_,rfl⟩:=List.mem_map.1 hv
      rfl
    · intro i v j x hi hj
      have hil:i < len:=by have:=lt_of_get hi; rw [hlen] at this; exact this
      have:v=encI (f i):=by
        rw [List.getElem?_map,List.getElem?_map,List.getElem?_range hil] at hi
        simpa using hi.symm
      subst this
      have hjx:j < 1:=lt_of_get hj
      match j,hjx,hj with
      | 0,_,hj =>
        simp [encI,cellsOf] at hj
        subst hj
        have e1:i * 1+0=i:=by omega
        rw [e1]
        exact V.int _ _
end Go.HL
end
section
namespace Go.HL
open Go.ChangeShapes Go.WideShapes Go.ChangeAt Go.RowKit Go.Deep
theorem ints_cells {H:Type} {enc:TypeId × Value → H} {P:Program} {W:World} {base fuel:Nat} {sp:Nat → Bool} {held:Bool} {t q:TypeId} {cs:List Value} {x:DataW H × List MemPlace} (ht:P.underlying t=some (.slice q)) (hq:P.underlying q=some (.int .i64)) (cq:P.cellsOf q=1)
    (hf:DataW.trod enc P W base sp held fuel t cs=some x):∃ (l:List Int) (v:Value),cs=[v]∧V W (okOf Ctx.nil W.heap.size) Ctx.nil (.imm .arg 1 (l.map encI)) v:=by
  rcases open_slice ht hf with ⟨h0,_⟩ | ⟨a',len,cap,m,n,D,Pl,h0,hb,hl,hm,hmm,hx,hel⟩
  · exact ⟨[],_,h0,.imm .arg 1 [] none 0 (fun _=>.bool false) (by simp) (by simp) (by simp) (by simp) (by simp) (by simp)⟩
  · subst h0
    have hlm:len ≤ m:=by rw [hmm]; split <;> omega
    have each:∀ i,i < len → ∃ z:Int,W.cell? (a'.add i)=some (.int .i64 z):=by
      intro i hi
      obtain ⟨cs',h1,h2⟩:=hel i (by omega)
      rw [cq] at h1
      obtain ⟨_,hlen,hcell⟩:=World.cells?_some h1
      match cs',hlen with
      | [v0],_ =>
        obtain ⟨z0,e0,_,_⟩:=DataW.trod_int hq h2
        simp at e0
        subst e0
        have c0:=hcell 0 (by omega)
        rw [add_add] at c0
        exact ⟨z0,by simpa using c0⟩
    obtain ⟨f,hf⟩:=choose_lt each
    refine ⟨(List.range len).map f,_,rfl,?_⟩
    have hlen:(((List.range len).map f).map encI).length=len:=by simp
    have key:=V.imm (w:=W) (ok:=okOf Ctx.nil W.heap.size) (c:=Ctx.nil) .arg 1 (((List.range len).map f).map encI) (some a') cap (fun j=>.int .i64 (f j))
      (by rw [hlen]; exact hl) (by simp) ?_ ?_ ?_ ?_
    · rw [hlen] at key; exact key
    · intro hne
      have h0:0 < len:=by
        rcases Nat.eq_zero_or_pos len with h | h
        · subst h; simp at hne
        · exact h
      obtain ⟨b,off,spot⟩:=a'
      have hspot:spot=none:=by simpa [Addr.add] using World.cell?_spot (hf 0 h0)
      subst hspot
      refine ⟨b,off,rfl,by simpa [Addr.add] using cell_lt (hf 0 h0),okNil W b,fun j hj=>?_⟩
      rw [hlen] at hj
      have c0:=hf j (by omega)
      rw [add_plain] at c0
      exact c0
    · intro v hv
      obtain ⟨p,_,rfl⟩:=List.mem_map.1 hv
      rfl
    · intro v hv
      obtain ⟨p,_,rfl⟩:=List.mem_map.1 hv
      rfl
    · intro i v j x hi hj
      have hil:i < len:=by have:=lt_of_get hi; rw [hlen] at this; exact this
      have:v=encI (f i):=by
        rw [List.getElem?_map,List.getElem?_map,List.getElem?_range hil] at hi
        simpa using hi.symm
      subst this
      have hjx:j < 1:=lt_of_get hj
      match j,hjx,hj with
      | 0,_,hj =>
        simp [encI,cellsOf] at hj
        subst hj
        have e1:i * 1+0=i:=by omega
        rw [e1]
        exact V.int _ _
def encRH (r:List Int):HV:=.imm .arg 1 (r.map encI)
theorem rows_cells {H:Type} {enc:TypeId × Value → H} {P:Program} {W:World} {base fuel:Nat} {sp:Nat → Bool} {held:Bool} {s t q:TypeId} {cs:List Value} {x:DataW H × List MemPlace} (hs:P.underlying s=some (.slice t)) (ct:P.cellsOf t=1) (ht:P.underlying t=some (.slice q)) (hq:P.underlying q=some (.int .i64)) (cq:P.cellsOf q=1)
    (hf:DataW.trod enc P W base sp held fuel s cs=some x):∃ (R:List (List Int)) (v:Value),cs=[v]∧V W (okOf Ctx.nil W.heap.size) Ctx.nil (.imm .arg 1 (R.map encRH)) v:=by
  rcases open_slice hs hf with ⟨h0,_⟩ | ⟨a',len,cap,m,n,D,Pl,h0,hb,hl,hm,hmm,hx,hel⟩
  · exact ⟨[],_,h0,.imm .arg 1 [] none 0 (fun _=>.bool false) (by simp) (by simp) (by simp) (by simp) (by simp) (by simp)⟩
  · subst h0
    have hlm:len ≤ m:=by rw [hmm]; split <;> omega
    have each:∀ i,i < len → ∃ p:List Int × Value,W.cell? (a'.add i)=some p.2∧V W (okOf Ctx.nil W.heap.size) Ctx.nil (encRH p.1) p.2:=by
      intro i hi
      obtain ⟨cs',h1,h2⟩:=hel i (by omega)
      rw [ct,Nat.mul_one] at h1
      obtain ⟨_,hlen,hcell⟩:=World.cells?_some h1
      obtain ⟨l,v,rfl,hV⟩:=ints_cells ht hq cq h2
      have c0:=hcell 0 (by omega)
      rw [add_add] at c0
      exact ⟨(l,v),by simpa using c0,hV⟩
    obtain ⟨f,hf⟩:=choose_lt each
    refine ⟨(List.range len).map fun i=>(f i).1,_,rfl,?_⟩
    have hlen:(((List.range len).map fun i=>(f i).1).map encRH).length=len:=by simp
    have key:=V.imm (w:=W) (ok:=okOf Ctx.nil W.heap.size) (c:=Ctx.nil) .arg 1 (((List.range len).map fun i=>(f i).1).map encRH) (some a') cap (fun j=>(f j).2)
      (by rw [hlen]; exact hl) (by simp) ?_ ?_ ?_ ?_
    · rw [hlen] at key; exact key
    · intro hne
      have h0:0 < len:=by
        rcases Nat.eq_zero_or_pos len with h | h
        · subst h; simp at hne
        · exact h
      obtain ⟨b,off,spot⟩:=a'
      have hspot:spot=none:=by simpa [Addr.add] using World.cell?_spot (hf 0 h0).1
      subst hspot
      refine ⟨b,off,rfl,by simpa [Addr.add] using cell_lt (hf 0 h0).1,okNil W b,fun j hj=>?_⟩
      rw [hlen,Nat.mul_one] at hj
      have c0:=(hf j hj).1
      rw [add_plain] at c0
      exact c0
    · intro v hv
      obtain ⟨p,_,rfl⟩:=List.mem_map.1 hv
      rfl
    · intro v hv
      obtain ⟨p,_,rfl⟩:=List.mem_map.1 hv
      rfl
    · intro i v j x hi hj
      have hil:i < len:=by have:=lt_of_get hi; rw [hlen] at this; exact this
      have:v=encRH (f i).1:=by
        rw [List.getElem?_map,List.getElem?_map,List.getElem?_range hil] at hi
        simpa using hi.symm
      subst this
      have hjx:j < 1:=lt_of_get hj
      obtain rfl:j=0:=by omega
      simp [encRH,cellsOf] at hj
      subst hj
      have e1:i * 1+0=i:=by omega
      rw [e1]
      exact (hf i hil).2
theorem arg_rows_ok {H:Type} {enc:TypeId × Value → H} {P:Program} {W:World} {base:Nat} {s t q:TypeId} {v:Value} {d:DataW H} {ps:List MemPlace} (hs:P.underlying s=some (.slice t)) (ct:P.cellsOf t=1) (ht:P.underlying t=some (.slice q)) (hq:P.underlying q=some (.int .i64)) (cq:P.cellsOf q=1)
    (hval:Value.okWide P W .any base s v) (hd:DataW.Trod enc P W 0 (fun _=>true) true s v d ps):∃ R:List (List Int),V W (okOf Ctx.nil W.heap.size) Ctx.nil (.imm .arg 1 (R.map encRH)) v:=by
  obtain ⟨a,len,cap,rfl⟩:=okWide_slice hs hval
  obtain ⟨fuel,hf⟩:=hd
  obtain ⟨R,v,hv,h⟩:=rows_cells hs ct ht hq cq hf
  simp [Value.cells] at hv
  subst hv
  exact ⟨R,h⟩
end Go.HL
end
