/- What a law on plays has in hand: the loom's report, the reference's, and that they are one. -/
import Derived.Test.YtfkokppncipgnaaGreatV30
import Derived.Test.YtfkokppncipgnaaGreatV15
import Derived.Test.YtfkokppncipgnaaGreatV20
set_option maxRecDepth 100000
set_option linter.unusedVariables false
set_option linter.unusedSimpArgs false
set_option linter.unnecessarySimpa false
namespace Go.Proofs.YtfkokppncipgnaaGreat
open Go.RowKit
def repOf (er:Int) (r:RepD):RepD:=if er=0 then r else ⟨[],[],c0,0,0⟩
theorem nil_rep (X:Nat->Prop) (B:Nat) (w:World):RepAt X B w (.slice none 0 0) (.slice none 0 0) [] ⟨[],[],c0,0,0⟩:=⟨⟨rfl,.inl ⟨rfl,rfl⟩⟩,rfl,λi hi=>absurd hi (Nat.not_lt_zero i),⟨rfl,.inl ⟨rfl,rfl⟩⟩⟩
theorem PlayRet.one {X:Nat->Prop} {w w':World} {er:Int} {r:RepD} {e:Ending} (h:PlayRet X w w' er r e):Below w.heap.size w w'/\∃ ea ec va vc ers,e=.returned (.tuple #[repV (.slice ea (repOf er r).evs.length ec) (.slice va (repOf er r).words.length vc) (repOf er r),.int .i64 er])/\RepAt X w.heap.size w' (.slice ea (repOf er r).evs.length ec) (.slice va (repOf er r).words.length vc) ers (repOf er r):=by
 obtain⟨ea,en,ec,va,vn,vc,rp,rfl,hb,hr⟩:=h
 refine⟨hb,ea,ec,va,vc,?_⟩
 rcases hr with⟨h0,rfl,rfl,rfl,rfl,rfl,rfl,rfl⟩|⟨h0,rfl,rfl,rfl,ers,hrep⟩
 ·have e0:repOf er r=⟨[],[],c0,0,0⟩:=if_neg h0
  rw [e0];exact⟨[],rfl,nil_rep _ _ _⟩
 ·have e0:repOf er rp=rp:=if_pos h0
  rw [e0];exact⟨ers,rfl,hrep⟩
theorem RefAny.one {X:Nat->Prop} {w w':World} {er:Int} {r:RepD} {e:Ending} (h:RefAny X w w' er r true e):Below w.heap.size w w'/\∃ ea ec va vc ers,e=.returned (.tuple #[repV (.slice ea (repOf er r).evs.length ec) (.slice va (repOf er r).words.length vc) (repOf er r),.int .i64 er])/\RepAt X w.heap.size w' (.slice ea (repOf er r).evs.length ec) (.slice none 0 0) ers { repOf er r with words:=[] }/\SlAt w' va (repOf er r).words.length 1 (u64G (repOf er r).words):=by
 obtain⟨hb,ea,en,ec,va,vn,vc,rp,lv,rfl,hr⟩:=h
 refine⟨hb,ea,ec,va,vc,?_⟩
 rcases hr with⟨h0,rfl,rfl,rfl,rfl,rfl,rfl,rfl⟩|⟨h0,rfl,rfl,rfl,ers,hrep,hsl,_⟩
 ·have e0:repOf er r=⟨[],[],c0,0,0⟩:=if_neg h0
  rw [e0];exact⟨[],rfl,nil_rep _ _ _,SlAt.nil _ _ _ _⟩
 ·have e0:repOf er rp=rp:=if_pos h0
  rw [e0];exact⟨ers,rfl,hrep,hsl⟩
end Go.Proofs.YtfkokppncipgnaaGreat
