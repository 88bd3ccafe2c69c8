/-
  The checker: what Next does, said.
-/
import Derived.Test.YtcddlnmcjmhbcaaDoorShCa
import Derived.Test.YtcddlnmcjmhbcaaDoorShCb
import Derived.Test.YtcddlnmcjmhbcaaDoorShC4
import Derived.Test.YtcddlnmcjmhbcaaDoorShC5
import Derived.Test.YtcddlnmcjmhbcaaDoorShC7
import Derived.Test.YtcddlnmcjmhbcaaDoorShC8
import Derived.Deep.MidRow
namespace Go.Proofs.YtcddlnmcjmhbcaaDoor
set_option linter.unusedVariables false
open Go Go.RowKit
def Bl (w:World) (c tb sb:Nat) (s:Sh) (ev:Nat) (r:Option Sh) (e:Ending) (w':World):Prop:=
 (∃ s',r=some s'∧e=.returned (.int .i64 0)∧fK w' c tb sb s' (ev+1)∧Turn [c,tb,sb] w w')∨
 (r=none∧e=.returned (.int .i64 4)∧fK w' c tb sb s ev∧Turn [c,tb,sb] w w')
theorem Jp {w:World} {b:Nat} {cs:Array Value} {t:TypeId} (h:aA w b cs t) {n:Nat} (hn:n=cs.size):w.there b 0 n:=by
 subst hn
 intro j hj
 rw[Nat.zero_add]
 exact⟨by rw[h.cell j (v:=cs[j]) (by simp[hj])];rfl,h.free j⟩
theorem qW {B b:Nat} (hb:B≤b):∀ (vs:List Value) (o:Nat) (w:World),Below B w (w.setCells b o vs)
 | [],_,w=>Below.refl _ _
 | v :: r,o,w=>((Below.refl B w).setCell (p:=⟨b,o,none⟩) hb v).trans (qW hb r (o+1) _)
theorem zU {w:World} {b:Nat} {cs:Array Value} {t:TypeId} (h:aA w b cs t) (vs:List Value) (hl:vs.length=cs.size) (k:Nat) {v:Value} (hv:vs[k]? =some v):(w.setCells b 0 vs).cell? ⟨b,k,none⟩=some v:=by
 obtain⟨hk,rfl⟩:=List.getElem?_eq_some_iff.1 hv
 have:=World.cell?_setCells_in b vs 0 w (fun j hj=>by rw[Nat.zero_add,h.cell j (v:=cs[j]'(by omega)) (by simp)];rfl) k hk
 rw[Nat.zero_add]at this
 exact this
end Go.Proofs.YtcddlnmcjmhbcaaDoor
-- short
