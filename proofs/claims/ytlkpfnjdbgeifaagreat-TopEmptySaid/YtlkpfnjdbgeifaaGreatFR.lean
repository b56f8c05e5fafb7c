import Derived.Lib.Hide
namespace Go.Proofs.YtlkpfnjdbgeifaaGreat
instance:Coe Nat Value:=⟨fun g=> .pointer (some ⟨g,0,none⟩)⟩
instance:Coe Int Value:=⟨fun x=> .int .i64 x⟩
instance:Coe Bool Value:=⟨fun b=> .bool b⟩
theorem qZ{p:Prop}(h:p):RowKit.Hid p:=h
end Go.Proofs.YtlkpfnjdbgeifaaGreat
