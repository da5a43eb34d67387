/- Left out here. -/
import Derived.Test.YtaaklejkngpddaaTabj
import Derived.Test.YtaaklejkngpddaaTabi
import Derived.Deep.RegionWith
import Derived.Lib.SlBytesConst
