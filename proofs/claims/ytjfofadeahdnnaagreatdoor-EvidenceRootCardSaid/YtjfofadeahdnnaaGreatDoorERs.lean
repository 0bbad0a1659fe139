import Derived.Test.YtjfofadeahdnnaaGreatDoorERk
import Derived.Test.YtjfofadeahdnnaaGreatDoorERr
import Derived.OpenShut
import Derived.Test.YtjfofadeahdnnaaGreatDoorERo
set_option linter.unusedVariables false
set_option linter.unusedSimpArgs false
namespace Go.AE
open Go.Proofs Go.Proofs.YtjfofadeahdnnaaGreatDoor Go.RowKit
theorem wf_in{x:Int}(h:(Lit.int .i64 x).wf=true):inR .i64 x:=by
 have:=bounds_i64 h
 exact⟨this.1,this.2⟩
def Gw(w:World)(b:Nat):Option Obj:=if b=0 then w.heap[0]? else none
theorem gw_ok(w:World):∀b o,Gw w b=some o→w.heap[b]?=some o:=by
 intro b o h;unfold Gw at h;split at h
 ·rename_i hb;rw[hb];exact h
 ·cases h
def aRD(G:Nat→Option Obj):Prop:=∃o,G 0=some o∧Go.CE.GlbOK o Go.CE.gw
theorem grpG_gw{w:World}(h:aRC w):aRD (Gw w):=by
 obtain⟨o,h1,h2⟩:=h;exact⟨o,by unfold Gw;rw[if_pos rfl];exact h1,h2⟩
theorem okLives35{G:Nat→Option Obj}(hG:aRD G):hO Tryz.prog G 13 rN:=by
 intro args p v hm hp h;unfold rN at hm
 split at hm;rotate_left;· cases hm
 obtain⟨rfl,rfl⟩:=dB hm;refine GP rfl ?_ h;intro R w vs hr hg ha
 obtain⟨o,h1,h2⟩:=hG
 have hv:=All2.nil2 ha
 obtain rfl:vs = #[]:=by
  apply Array.ext';simpa using hv
 refine(Go.CE.lives35_calls h2 (hg 0 o h1)).mono ?_;rintro e w' ⟨rfl,hb⟩;exact⟨_,rfl,rfl,hb⟩
theorem row_vrI{w:World}{a:Option Addr}{len cap:Nat}{zs:List Int}(h:(a=none∧len=0∧cap=0∧zs=[]) ∨
 ∃x:Addr,a=some x∧len≤cap∧cap≤maxLen∧zs.length=cap∧(∀i,i<zs.length→w.cell? (x.add i)=some (.int .i64 (zs.getD i 0)))∧∀n∈zs,(Lit.int .i64 n).wf=true) :
  ∃L,tC L∧L.length≤9223372036854775807∧VR Bt.nil (fun b=>b<w.heap.size) w (aQ aU 1 L) (.slice a len cap):=by
 rcases h with⟨rfl,rfl,rfl,rfl⟩|⟨x,rfl,h1,h2,h3,h4,h5⟩
 ·exact⟨[],(fun x hx=>by cases hx),Nat.zero_le _,none,0,rfl,Nat.le_refl _,Nat.zero_le _,fun h=>absurd h (Nat.lt_irrefl 0)⟩
 ·have hl:(zs.take len).length=len:=by rw[List.length_take];omega
  refine⟨zs.take len,fun y hy=>wf_in (h5 y (List.mem_of_mem_take hy)),by rw[hl];simp only[maxLen]at h2;omega,some x,cap,by rw[hl],by rw[hl];exact h1,h2,fun hn=>?_⟩;rw[hl]at hn;refine⟨x,rfl,?_,fun e o he ho=>?_⟩
  ·have:=World.block_lt_of_cell? w _ (h4 0 (by omega))
   rwa [pW]at this
  ·rw[hl]at he
   obtain rfl:o=0:=by omega
   refine⟨_,h4 (e*1+0) (by omega),?_⟩
   show Value.int .i64 (zs.getD (e*1+0) 0)=Value.int .i64 ((zs.take len).getD e default)
   simp[he]
end Go.AE
